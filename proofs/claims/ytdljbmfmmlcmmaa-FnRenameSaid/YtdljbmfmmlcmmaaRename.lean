/- RenameNets: the program's and the reference's. -/
import Derived.Test.YtdljbmfmmlcmmaaRens
import Derived.Test.YtdljbmfmmlcmmaaOrdI
import Derived.Test.YtdljbmfmmlcmmaaPerm
namespace Go.Proofs.Ytdljbmfmmlcmmaa
open Go.RowKit
set_option linter.unusedVariables false
set_option linter.unusedSimpArgs false

set_option maxRecDepth 100000 in
set_option maxHeartbeats 8000000 in
theorem implRename_any (x : Nl) (names : List Int) (v sn : Value) (w : World) (h : NlV w v x) (hn : IntSl w sn names) (hok : ∀ p ∈ x.ps, p.ok) (hnn : Fits x.nets) (hl : names.length ≤ 1048576) :
    Calls Try.prog 7 #[v, sn] w fun e w' => ∃ v', e = .returned (.tuple #[v', .int .i64 (renC x names)]) ∧ OwnNl w' w.heap.size w'.heap.size v' (renR x names) ∧ Below w.heap.size w w' := by
  have HV := Lib.hid (fun v w h => implNl_any x v w h hok hnn)
  have HN := Lib.hid h
  have HS := Lib.hid hn
  obtain ⟨rc, hrc⟩ : ∃ r, renC x names = r := ⟨_, rfl⟩
  obtain ⟨rr, hrr⟩ : ∃ r, renR x names = r := ⟨_, rfl⟩
  rw [hrc, hrr]
  unfold renC at hrc
  unfold renR at hrr
  obtain ⟨a, c, a', c', rfl⟩ := h.sized
  obtain ⟨an, cn, rfl⟩ := hn.len
  by_cases hb : nlB x = true
  · obtain ⟨⟨hn0, hn1⟩, hd24, hp8, hdv, _⟩ := nlB_facts hb
    have hnet := nl_nets hb
    obtain ⟨nets, ds, ps⟩ := x
    dsimp only at *
    obtain ⟨m, rfl⟩ : ∃ m : Nat, nets = m := ⟨nets.toNat, by omega⟩
    rw [hb] at HV
    rw [if_pos hb] at hrc hrr
    have HO := Lib.hid (fun w h => implOrder_any (.slice an names.length cn) names m w h hl)
    obtain ⟨p, hp⟩ : ∃ p, permB names (m : Int) = p := ⟨_, rfl⟩
    rw [hp] at HO hrc hrr
    cases p with
    | false =>
      simp only [Bool.false_eq_true, if_false] at hrc hrr
      subst hrc hrr
      clear h hn hok hnn hp hb hnet hdv
      go_enter Try.func7, Try.ntmps7
      go_wp2_with fail
      refine (HV.out _ _ (HN.out.by (by ((repeat (first | (with_reducible exact Below.refl _ _) | (with_reducible refine below_drewN ?_ _) | (with_reducible refine Below.drew ?_) | (with_reducible refine below_al ?_ _) | (with_reducible refine below_on (by assumption) ?_) | ((with_reducible refine Below.setCell ?_ ?_ _); rotate_left; focus (first | omega | (simp; done) | (simp; omega))) | (with_reducible assumption))); done)))).mono ?_
      rintro e w1 ⟨rfl, hb1⟩
      have kA : Blk w1 w.heap.size #[.int .i64 (m : Int), .slice a ds.length c, .slice a' ps.length c'] 27 := (by ((repeat (first | (with_reducible assumption) | (with_reducible refine Blk.drewN ?_ _) | (with_reducible refine Blk.drew ?_) | ((with_reducible refine Blk.new _ ?_); focus (first | omega | (simp; done) | (simp; omega))) | (with_reducible refine Blk.past ?_ _) | ((with_reducible refine Blk.apart ?_ _ _ _ ?_); rotate_left; focus (first | omega | (simp; done) | (simp; omega))) | (with_reducible refine Blk.by (by assumption) ?_))); done))
      have kR : Blk w1 (w.heap.size + 1) #[.int .i64 0, .slice none 0 0, .slice none 0 0] 27 := (by ((repeat (first | (with_reducible assumption) | (with_reducible refine Blk.drewN ?_ _) | (with_reducible refine Blk.drew ?_) | ((with_reducible refine Blk.new _ ?_); focus (first | omega | (simp; done) | (simp; omega))) | (with_reducible refine Blk.past ?_ _) | ((with_reducible refine Blk.apart ?_ _ _ _ ?_); rotate_left; focus (first | omega | (simp; done) | (simp; omega))) | (with_reducible refine Blk.by (by assumption) ?_))); done))
      have hW : Below w.heap.size w w1 := (by ((repeat (first | (with_reducible exact Below.refl _ _) | (with_reducible refine below_drewN ?_ _) | (with_reducible refine Below.drew ?_) | (with_reducible refine below_al ?_ _) | (with_reducible refine below_on (by assumption) ?_) | ((with_reducible refine Below.setCell ?_ ?_ _); rotate_left; focus (first | omega | (simp; done) | (simp; omega))) | (with_reducible assumption))); done))
      have qA := kA.cell
      clear hb1
      go_wp2_with fail
      refine (HO.out _ (HS.out.by hW)).mono ?_
      rintro e w2 ⟨rfl, hb2⟩
      replace kR := Blk.by hb2 kR
      replace hW := below_on hb2 hW
      have qR := kR.cell
      have fR := kR.free
      have lR := kR.lt
      clear hb2 qA
      go_wp2
      exact bodyPost_ret (v := .tuple #[.agg #[.int .i64 0, .slice none 0 0, .slice none 0 0], .int .i64 2]) (by simp [results, Try.results7, go_sem, *]) rfl ⟨_, rfl, nlZero _ _ _ (by simp; omega), (by ((repeat (first | (with_reducible exact Below.refl _ _) | (with_reducible refine below_drewN ?_ _) | (with_reducible refine Below.drew ?_) | (with_reducible refine below_al ?_ _) | (with_reducible refine below_on (by assumption) ?_) | ((with_reducible refine Below.setCell ?_ ?_ _); rotate_left; focus (first | omega | (simp; done) | (simp; omega))) | (with_reducible assumption))); done))⟩
    | true =>
      simp only [if_true] at hrc hrr
      have hlen : (names.length : Int) = m := (permB_iff.1 hp).1
      have HR := Lib.hid (fun v w h h' => implRenW_any ⟨(m : Int), ds, ps⟩ names (.slice an names.length cn) (m : Int) v w h h' (by dsimp only; omega) (by dsimp only; omega) (fun d hd => by have q := dvB_pins (hdv d hd); exact ⟨q.1, fun e => by rw [e] at q; simp at q, fun z hz => by have := q.2.2 z hz; omega⟩) (fun p hp => by have := hnet p hp; omega))
      subst hrc
      rw [hrr] at HR
      clear h hn hok hnn hp hb hnet hdv hlen hrr
      go_enter Try.func7, Try.ntmps7
      go_wp2_with fail
      refine (HV.out _ _ (HN.out.by (by ((repeat (first | (with_reducible exact Below.refl _ _) | (with_reducible refine below_drewN ?_ _) | (with_reducible refine Below.drew ?_) | (with_reducible refine below_al ?_ _) | (with_reducible refine below_on (by assumption) ?_) | ((with_reducible refine Below.setCell ?_ ?_ _); rotate_left; focus (first | omega | (simp; done) | (simp; omega))) | (with_reducible assumption))); done)))).mono ?_
      rintro e w1 ⟨rfl, hb1⟩
      have kA : Blk w1 w.heap.size #[.int .i64 (m : Int), .slice a ds.length c, .slice a' ps.length c'] 27 := (by ((repeat (first | (with_reducible assumption) | (with_reducible refine Blk.drewN ?_ _) | (with_reducible refine Blk.drew ?_) | ((with_reducible refine Blk.new _ ?_); focus (first | omega | (simp; done) | (simp; omega))) | (with_reducible refine Blk.past ?_ _) | ((with_reducible refine Blk.apart ?_ _ _ _ ?_); rotate_left; focus (first | omega | (simp; done) | (simp; omega))) | (with_reducible refine Blk.by (by assumption) ?_))); done))
      have kR : Blk w1 (w.heap.size + 1) #[.int .i64 0, .slice none 0 0, .slice none 0 0] 27 := (by ((repeat (first | (with_reducible assumption) | (with_reducible refine Blk.drewN ?_ _) | (with_reducible refine Blk.drew ?_) | ((with_reducible refine Blk.new _ ?_); focus (first | omega | (simp; done) | (simp; omega))) | (with_reducible refine Blk.past ?_ _) | ((with_reducible refine Blk.apart ?_ _ _ _ ?_); rotate_left; focus (first | omega | (simp; done) | (simp; omega))) | (with_reducible refine Blk.by (by assumption) ?_))); done))
      have hW : Below w.heap.size w w1 := (by ((repeat (first | (with_reducible exact Below.refl _ _) | (with_reducible refine below_drewN ?_ _) | (with_reducible refine Below.drew ?_) | (with_reducible refine below_al ?_ _) | (with_reducible refine below_on (by assumption) ?_) | ((with_reducible refine Below.setCell ?_ ?_ _); rotate_left; focus (first | omega | (simp; done) | (simp; omega))) | (with_reducible assumption))); done))
      have qA := kA.cell
      clear hb1
      go_wp2_with fail
      refine (HO.out _ (HS.out.by hW)).mono ?_
      rintro e w2 ⟨rfl, hb2⟩
      replace kA := Blk.by hb2 kA
      replace kR := Blk.by hb2 kR
      replace hW := below_on hb2 hW
      have lR := kR.lt
      clear hb2 qA
      have qA := kA.cell
      go_wp2_with fail
      refine (HR.out _ _ (HN.out.by hW) (HS.out.by hW)).mono ?_
      rintro e w3 ⟨v3, rfl, hO, hb3⟩
      obtain ⟨s1, s2, lo1, hi1, lo2, hi2, rfl, hOD, hOP, hi1', hi2', hap⟩ := hO
      replace kR := Blk.by hb3 kR
      replace hW := below_on hb3 hW
      obtain ⟨a1, c1, rfl⟩ := hOD.sl.sized
      obtain ⟨a2, c2, rfl⟩ := hOP.sl.sized
      have HOD := Lib.hid hOD
      have HOP := Lib.hid hOP
      have qR := kR.cell
      have fR := kR.free
      have lR3 := kR.lt
      have hb3s := hb3.size
      obtain ⟨n3, l1, l2, hn3, hl1, hl2⟩ : ∃ n3 l1 l2, rr.nets = n3 ∧ rr.ds.length = l1 ∧ rr.ps.length = l2 := ⟨_, _, _, rfl, rfl, rfl⟩
      have HE := Lib.hid (And.intro hn3 (And.intro hl1 hl2))
      rw [hn3, hl1, hl2]
      clear hb3 qA hOD hOP hn3 hl1 hl2
      go_wp2
      refine bodyPost_ret (v := .tuple #[.agg #[.int .i64 n3, .slice a1 l1 c1, .slice a2 l2 c2], .int .i64 0]) (by simp [results, Try.results7, go_sem, *]) rfl ⟨_, rfl, ⟨_, _, lo1, hi1, lo2, hi2, by rw [HE.out.1], ?_, ?_, ⟨by omega, by simp; omega⟩, ⟨by omega, by simp; omega⟩, hap⟩, (by ((repeat (first | (with_reducible exact Below.refl _ _) | (with_reducible refine below_drewN ?_ _) | (with_reducible refine Below.drew ?_) | (with_reducible refine below_al ?_ _) | (with_reducible refine below_on (by assumption) ?_) | ((with_reducible refine Below.setCell ?_ ?_ _); rotate_left; focus (first | omega | (simp; done) | (simp; omega))) | (with_reducible assumption))); done))⟩
      · have := HOD.out
        rw [HE.out.2.1] at this
        exact ((this.past (Within.off _) (by omega)).past (Within.off _) (by omega)).past (Within.off _) (by omega)
      · have := HOP.out
        rw [HE.out.2.2] at this
        exact ((this.past (Within.off _) (by omega)).past (Within.off _) (by omega)).past (Within.off _) (by omega)
  · rw [if_neg hb] at hrc hrr
    have hbf : nlB x = false := by simpa using hb
    rw [hbf] at HV
    subst hrc hrr
    clear h hn hok hnn hb hbf
    go_enter Try.func7, Try.ntmps7
    go_wp2_with fail
    refine (HV.out _ _ (HN.out.by (by ((repeat (first | (with_reducible exact Below.refl _ _) | (with_reducible refine below_drewN ?_ _) | (with_reducible refine Below.drew ?_) | (with_reducible refine below_al ?_ _) | (with_reducible refine below_on (by assumption) ?_) | ((with_reducible refine Below.setCell ?_ ?_ _); rotate_left; focus (first | omega | (simp; done) | (simp; omega))) | (with_reducible assumption))); done)))).mono ?_
    rintro e w1 ⟨rfl, hb1⟩
    have kR : Blk w1 (w.heap.size + 1) #[.int .i64 0, .slice none 0 0, .slice none 0 0] 27 := (by ((repeat (first | (with_reducible assumption) | (with_reducible refine Blk.drewN ?_ _) | (with_reducible refine Blk.drew ?_) | ((with_reducible refine Blk.new _ ?_); focus (first | omega | (simp; done) | (simp; omega))) | (with_reducible refine Blk.past ?_ _) | ((with_reducible refine Blk.apart ?_ _ _ _ ?_); rotate_left; focus (first | omega | (simp; done) | (simp; omega))) | (with_reducible refine Blk.by (by assumption) ?_))); done))
    have hW : Below w.heap.size w w1 := (by ((repeat (first | (with_reducible exact Below.refl _ _) | (with_reducible refine below_drewN ?_ _) | (with_reducible refine Below.drew ?_) | (with_reducible refine below_al ?_ _) | (with_reducible refine below_on (by assumption) ?_) | ((with_reducible refine Below.setCell ?_ ?_ _); rotate_left; focus (first | omega | (simp; done) | (simp; omega))) | (with_reducible assumption))); done))
    have qR := kR.cell
    have fR := kR.free
    have lR := kR.lt
    clear hb1
    go_wp2
    exact bodyPost_ret (v := .tuple #[.agg #[.int .i64 0, .slice none 0 0, .slice none 0 0], .int .i64 1]) (by simp [results, Try.results7, go_sem, *]) rfl ⟨_, rfl, nlZero _ _ _ (by simp; omega), (by ((repeat (first | (with_reducible exact Below.refl _ _) | (with_reducible refine below_drewN ?_ _) | (with_reducible refine Below.drew ?_) | (with_reducible refine below_al ?_ _) | (with_reducible refine below_on (by assumption) ?_) | ((with_reducible refine Below.setCell ?_ ?_ _); rotate_left; focus (first | omega | (simp; done) | (simp; omega))) | (with_reducible assumption))); done))⟩


set_option maxRecDepth 100000 in
set_option maxHeartbeats 8000000 in
theorem specRename_any (x : Nl) (names : List Int) (v sn : Value) (w : World) (h : NlV w v x) (hn : IntSl w sn names) (hok : ∀ p ∈ x.ps, p.ok) (hnn : Fits x.nets) (hl : names.length ≤ 1048576) :
    Calls Try.prog 8 #[v, sn] w fun e w' => ∃ v', e = .returned (.tuple #[v', .int .i64 (renC x names)]) ∧ OwnNl w' w.heap.size w'.heap.size v' (renR x names) ∧ Below w.heap.size w w' := by
  have HV := Lib.hid (fun v w h => specNl_any x v w h hok hnn)
  have HN := Lib.hid h
  have HS := Lib.hid hn
  obtain ⟨rc, hrc⟩ : ∃ r, renC x names = r := ⟨_, rfl⟩
  obtain ⟨rr, hrr⟩ : ∃ r, renR x names = r := ⟨_, rfl⟩
  rw [hrc, hrr]
  unfold renC at hrc
  unfold renR at hrr
  obtain ⟨a, c, a', c', rfl⟩ := h.sized
  obtain ⟨an, cn, rfl⟩ := hn.len
  by_cases hb : nlB x = true
  · obtain ⟨⟨hn0, hn1⟩, hd24, hp8, hdv, _⟩ := nlB_facts hb
    have hnet := nl_nets hb
    obtain ⟨nets, ds, ps⟩ := x
    dsimp only at *
    obtain ⟨m, rfl⟩ : ∃ m : Nat, nets = m := ⟨nets.toNat, by omega⟩
    rw [hb] at HV
    rw [if_pos hb] at hrc hrr
    have HO := Lib.hid (fun w h => specPerm_any (.slice an names.length cn) names m w h hl (by omega))
    obtain ⟨p, hp⟩ : ∃ p, permB names (m : Int) = p := ⟨_, rfl⟩
    rw [hp] at HO hrc hrr
    cases p with
    | false =>
      simp only [Bool.false_eq_true, if_false] at hrc hrr
      subst hrc hrr
      clear h hn hok hnn hp hb hnet hdv
      go_enter Try.func8, Try.ntmps8
      go_wp2_with fail
      refine (HV.out _ _ (HN.out.by (by ((repeat (first | (with_reducible exact Below.refl _ _) | (with_reducible refine below_drewN ?_ _) | (with_reducible refine Below.drew ?_) | (with_reducible refine below_al ?_ _) | (with_reducible refine below_on (by assumption) ?_) | ((with_reducible refine Below.setCell ?_ ?_ _); rotate_left; focus (first | omega | (simp; done) | (simp; omega))) | (with_reducible assumption))); done)))).mono ?_
      rintro e w1 ⟨rfl, hb1⟩
      have kA : Blk w1 w.heap.size #[.int .i64 (m : Int), .slice a ds.length c, .slice a' ps.length c'] 27 := (by ((repeat (first | (with_reducible assumption) | (with_reducible refine Blk.drewN ?_ _) | (with_reducible refine Blk.drew ?_) | ((with_reducible refine Blk.new _ ?_); focus (first | omega | (simp; done) | (simp; omega))) | (with_reducible refine Blk.past ?_ _) | ((with_reducible refine Blk.apart ?_ _ _ _ ?_); rotate_left; focus (first | omega | (simp; done) | (simp; omega))) | (with_reducible refine Blk.by (by assumption) ?_))); done))
      have kR : Blk w1 (w.heap.size + 1) #[.int .i64 0, .slice none 0 0, .slice none 0 0] 27 := (by ((repeat (first | (with_reducible assumption) | (with_reducible refine Blk.drewN ?_ _) | (with_reducible refine Blk.drew ?_) | ((with_reducible refine Blk.new _ ?_); focus (first | omega | (simp; done) | (simp; omega))) | (with_reducible refine Blk.past ?_ _) | ((with_reducible refine Blk.apart ?_ _ _ _ ?_); rotate_left; focus (first | omega | (simp; done) | (simp; omega))) | (with_reducible refine Blk.by (by assumption) ?_))); done))
      have hW : Below w.heap.size w w1 := (by ((repeat (first | (with_reducible exact Below.refl _ _) | (with_reducible refine below_drewN ?_ _) | (with_reducible refine Below.drew ?_) | (with_reducible refine below_al ?_ _) | (with_reducible refine below_on (by assumption) ?_) | ((with_reducible refine Below.setCell ?_ ?_ _); rotate_left; focus (first | omega | (simp; done) | (simp; omega))) | (with_reducible assumption))); done))
      have qA := kA.cell
      clear hb1
      go_wp2_with fail
      refine (HO.out _ (HS.out.by hW)).mono ?_
      rintro e w2 ⟨rfl, hb2⟩
      replace kR := Blk.by hb2 kR
      replace hW := below_on hb2 hW
      have qR := kR.cell
      have fR := kR.free
      have lR := kR.lt
      clear hb2 qA
      go_wp2
      exact bodyPost_ret (v := .tuple #[.agg #[.int .i64 0, .slice none 0 0, .slice none 0 0], .int .i64 2]) (by simp [results, Try.results8, go_sem, *]) rfl ⟨_, rfl, nlZero _ _ _ (by simp; omega), (by ((repeat (first | (with_reducible exact Below.refl _ _) | (with_reducible refine below_drewN ?_ _) | (with_reducible refine Below.drew ?_) | (with_reducible refine below_al ?_ _) | (with_reducible refine below_on (by assumption) ?_) | ((with_reducible refine Below.setCell ?_ ?_ _); rotate_left; focus (first | omega | (simp; done) | (simp; omega))) | (with_reducible assumption))); done))⟩
    | true =>
      simp only [if_true] at hrc hrr
      have hlen : (names.length : Int) = m := (permB_iff.1 hp).1
      have HR := Lib.hid (fun v w h h' => specRenW_any ⟨(m : Int), ds, ps⟩ names (.slice an names.length cn) (m : Int) v w h h' (by dsimp only; omega) (by dsimp only; omega) (fun d hd => by have q := dvB_pins (hdv d hd); exact ⟨q.1, fun e => by rw [e] at q; simp at q, fun z hz => by have := q.2.2 z hz; omega⟩) (fun p hp => by have := hnet p hp; omega))
      subst hrc
      rw [hrr] at HR
      clear h hn hok hnn hp hb hnet hdv hlen hrr
      go_enter Try.func8, Try.ntmps8
      go_wp2_with fail
      refine (HV.out _ _ (HN.out.by (by ((repeat (first | (with_reducible exact Below.refl _ _) | (with_reducible refine below_drewN ?_ _) | (with_reducible refine Below.drew ?_) | (with_reducible refine below_al ?_ _) | (with_reducible refine below_on (by assumption) ?_) | ((with_reducible refine Below.setCell ?_ ?_ _); rotate_left; focus (first | omega | (simp; done) | (simp; omega))) | (with_reducible assumption))); done)))).mono ?_
      rintro e w1 ⟨rfl, hb1⟩
      have kA : Blk w1 w.heap.size #[.int .i64 (m : Int), .slice a ds.length c, .slice a' ps.length c'] 27 := (by ((repeat (first | (with_reducible assumption) | (with_reducible refine Blk.drewN ?_ _) | (with_reducible refine Blk.drew ?_) | ((with_reducible refine Blk.new _ ?_); focus (first | omega | (simp; done) | (simp; omega))) | (with_reducible refine Blk.past ?_ _) | ((with_reducible refine Blk.apart ?_ _ _ _ ?_); rotate_left; focus (first | omega | (simp; done) | (simp; omega))) | (with_reducible refine Blk.by (by assumption) ?_))); done))
      have kR : Blk w1 (w.heap.size + 1) #[.int .i64 0, .slice none 0 0, .slice none 0 0] 27 := (by ((repeat (first | (with_reducible assumption) | (with_reducible refine Blk.drewN ?_ _) | (with_reducible refine Blk.drew ?_) | ((with_reducible refine Blk.new _ ?_); focus (first | omega | (simp; done) | (simp; omega))) | (with_reducible refine Blk.past ?_ _) | ((with_reducible refine Blk.apart ?_ _ _ _ ?_); rotate_left; focus (first | omega | (simp; done) | (simp; omega))) | (with_reducible refine Blk.by (by assumption) ?_))); done))
      have hW : Below w.heap.size w w1 := (by ((repeat (first | (with_reducible exact Below.refl _ _) | (with_reducible refine below_drewN ?_ _) | (with_reducible refine Below.drew ?_) | (with_reducible refine below_al ?_ _) | (with_reducible refine below_on (by assumption) ?_) | ((with_reducible refine Below.setCell ?_ ?_ _); rotate_left; focus (first | omega | (simp; done) | (simp; omega))) | (with_reducible assumption))); done))
      have qA := kA.cell
      clear hb1
      go_wp2_with fail
      refine (HO.out _ (HS.out.by hW)).mono ?_
      rintro e w2 ⟨rfl, hb2⟩
      replace kA := Blk.by hb2 kA
      replace kR := Blk.by hb2 kR
      replace hW := below_on hb2 hW
      have lR := kR.lt
      clear hb2 qA
      have qA := kA.cell
      go_wp2_with fail
      refine (HR.out _ _ (HN.out.by hW) (HS.out.by hW)).mono ?_
      rintro e w3 ⟨v3, rfl, hO, hb3⟩
      obtain ⟨s1, s2, lo1, hi1, lo2, hi2, rfl, hOD, hOP, hi1', hi2', hap⟩ := hO
      replace kR := Blk.by hb3 kR
      replace hW := below_on hb3 hW
      obtain ⟨a1, c1, rfl⟩ := hOD.sl.sized
      obtain ⟨a2, c2, rfl⟩ := hOP.sl.sized
      have HOD := Lib.hid hOD
      have HOP := Lib.hid hOP
      have qR := kR.cell
      have fR := kR.free
      have lR3 := kR.lt
      have hb3s := hb3.size
      obtain ⟨n3, l1, l2, hn3, hl1, hl2⟩ : ∃ n3 l1 l2, rr.nets = n3 ∧ rr.ds.length = l1 ∧ rr.ps.length = l2 := ⟨_, _, _, rfl, rfl, rfl⟩
      have HE := Lib.hid (And.intro hn3 (And.intro hl1 hl2))
      rw [hn3, hl1, hl2]
      clear hb3 qA hOD hOP hn3 hl1 hl2
      go_wp2
      refine bodyPost_ret (v := .tuple #[.agg #[.int .i64 n3, .slice a1 l1 c1, .slice a2 l2 c2], .int .i64 0]) (by simp [results, Try.results8, go_sem, *]) rfl ⟨_, rfl, ⟨_, _, lo1, hi1, lo2, hi2, by rw [HE.out.1], ?_, ?_, ⟨by omega, by simp; omega⟩, ⟨by omega, by simp; omega⟩, hap⟩, (by ((repeat (first | (with_reducible exact Below.refl _ _) | (with_reducible refine below_drewN ?_ _) | (with_reducible refine Below.drew ?_) | (with_reducible refine below_al ?_ _) | (with_reducible refine below_on (by assumption) ?_) | ((with_reducible refine Below.setCell ?_ ?_ _); rotate_left; focus (first | omega | (simp; done) | (simp; omega))) | (with_reducible assumption))); done))⟩
      · have := HOD.out
        rw [HE.out.2.1] at this
        exact ((this.past (Within.off _) (by omega)).past (Within.off _) (by omega)).past (Within.off _) (by omega)
      · have := HOP.out
        rw [HE.out.2.2] at this
        exact ((this.past (Within.off _) (by omega)).past (Within.off _) (by omega)).past (Within.off _) (by omega)
  · rw [if_neg hb] at hrc hrr
    have hbf : nlB x = false := by simpa using hb
    rw [hbf] at HV
    subst hrc hrr
    clear h hn hok hnn hb hbf
    go_enter Try.func8, Try.ntmps8
    go_wp2_with fail
    refine (HV.out _ _ (HN.out.by (by ((repeat (first | (with_reducible exact Below.refl _ _) | (with_reducible refine below_drewN ?_ _) | (with_reducible refine Below.drew ?_) | (with_reducible refine below_al ?_ _) | (with_reducible refine below_on (by assumption) ?_) | ((with_reducible refine Below.setCell ?_ ?_ _); rotate_left; focus (first | omega | (simp; done) | (simp; omega))) | (with_reducible assumption))); done)))).mono ?_
    rintro e w1 ⟨rfl, hb1⟩
    have kR : Blk w1 (w.heap.size + 1) #[.int .i64 0, .slice none 0 0, .slice none 0 0] 27 := (by ((repeat (first | (with_reducible assumption) | (with_reducible refine Blk.drewN ?_ _) | (with_reducible refine Blk.drew ?_) | ((with_reducible refine Blk.new _ ?_); focus (first | omega | (simp; done) | (simp; omega))) | (with_reducible refine Blk.past ?_ _) | ((with_reducible refine Blk.apart ?_ _ _ _ ?_); rotate_left; focus (first | omega | (simp; done) | (simp; omega))) | (with_reducible refine Blk.by (by assumption) ?_))); done))
    have hW : Below w.heap.size w w1 := (by ((repeat (first | (with_reducible exact Below.refl _ _) | (with_reducible refine below_drewN ?_ _) | (with_reducible refine Below.drew ?_) | (with_reducible refine below_al ?_ _) | (with_reducible refine below_on (by assumption) ?_) | ((with_reducible refine Below.setCell ?_ ?_ _); rotate_left; focus (first | omega | (simp; done) | (simp; omega))) | (with_reducible assumption))); done))
    have qR := kR.cell
    have fR := kR.free
    have lR := kR.lt
    clear hb1
    go_wp2
    exact bodyPost_ret (v := .tuple #[.agg #[.int .i64 0, .slice none 0 0, .slice none 0 0], .int .i64 1]) (by simp [results, Try.results8, go_sem, *]) rfl ⟨_, rfl, nlZero _ _ _ (by simp; omega), (by ((repeat (first | (with_reducible exact Below.refl _ _) | (with_reducible refine below_drewN ?_ _) | (with_reducible refine Below.drew ?_) | (with_reducible refine below_al ?_ _) | (with_reducible refine below_on (by assumption) ?_) | ((with_reducible refine Below.setCell ?_ ?_ _); rotate_left; focus (first | omega | (simp; done) | (simp; omega))) | (with_reducible assumption))); done))⟩

end Go.Proofs.Ytdljbmfmmlcmmaa
