/- Contracts and plain laws, part 2, for the statement's proof. -/
import Derived.Test.YtifbffianbgeaaaGreatPkAmsLaw1
import Derived.WalkLawsBesides
import Derived.Deep.AppendLies
import Derived.Lib.SliceRun
import Derived.Deep.DeepCutAuto
import Derived.Deep.RegionLaw
import Derived.BigRegion
import Derived.Deep.RegionHeld3
import Derived.Deep.RegionHeldLaw
namespace Go.Proofs.YtifbffianbgeaaaGreat
open Go.RowKit
set_option linter.unusedVariables false
set_option linter.unusedSimpArgs false
theorem lt_of_cell {w : World} {p : Addr} {v : Value} (h : w.cell? p = some v) : p.block < w.heap.size := by
  rcases Nat.lt_or_ge p.block w.heap.size with h' | h'
  · exact h'
  · simp [World.cell?, Array.getElem?_eq_none h'] at h
set_option maxRecDepth 100000 in
set_option maxHeartbeats 1000000 in
theorem vnClosure_any (x : Dv) (sv : Value) (nets : Int) (B : Nat) (W : World) (hc : W.cell? ⟨B, 0, none⟩ = some (.int .i64 nets)) (hS : IntSl W sv x.pins) (hn : 0 ≤ nets) (hn' : nets ≤ 24) :
    Calls Tryz.prog 90 #[.agg #[.int .i64 x.kind, sv, .int .i64 x.wd, .int .i64 x.len], .pointer (some ⟨B, 0, none⟩)] W fun e w' => e = .returned (.bool (!dvB nets x)) ∧ Below W.heap.size W w' := by
  have HT := Lib.hid (fun w h => validDevice_any x sv nets w h hn hn')
  have hB := lt_of_cell hc
  dsimp only at hB
  obtain ⟨a, c, rfl⟩ := hS.len
  generalize dvB nets x = r at *
  go_enter Tryz.func90, Tryz.ntmps90
  go_wp2_with fail
  refine (HT.out _ (hS.by blwT)).mono ?_
  rintro e w1 ⟨rfl, hb1⟩
  go_wp2
  go_ret
  exact ⟨rfl, blwT⟩
theorem dvs_any (nets : Int) (ds : List Dv) : (ds.any fun d => !dvB nets d) = !(ds.all (dvB nets)) := by
  induction ds with
  | nil => rfl
  | cons x xs ih => simp [ih]
set_option maxRecDepth 100000 in
set_option maxHeartbeats 4000000 in
theorem implNl_any (x : Nl) (v : Value) (w : World) (h : NlV w v x) (hok : ∀ p ∈ x.ps, p.ok) (hnn : Fits x.nets) :
    Calls Tryz.prog 40 #[v] w fun e w' => e = .returned (.bool (nlB x)) ∧ Below w.heap.size w w' := by
  obtain ⟨s1, s2, rfl, hd, hp⟩ := h
  have HNn := Lib.hid (@nlB_nets x)
  have HND := Lib.hid (@nlB_ds x)
  have HNP := Lib.hid (@nlB_ps x)
  have HPT := Lib.hid (fun i => @nlB_pt i x)
  have HEN := Lib.hid (@nlB_pts x)
  obtain ⟨nets, ds, ps⟩ := x
  dsimp only at hd hp hok hnn HNn HND HNP HPT HEN ⊢
  generalize nlB ⟨nets, ds, ps⟩ = r at *
  have hdl : ds.length ≤ maxLen := by
    rcases hd with ⟨_, _, _, h2⟩ | ⟨b, off, cap, h1, h2, h3, _⟩
    · subst h2; simp
    · exact Nat.le_trans h2 h3
  have hpl : ps.length ≤ maxLen := by
    rcases hp with ⟨_, _, _, h2⟩ | ⟨b, off, cap, h1, h2, h3, _⟩
    · subst h2; simp
    · exact Nat.le_trans h2 h3
  unfold maxLen at hdl hpl
  have HD := Lib.hid hd
  have HP := Lib.hid hp
  have hmf : ∀ (fn : Fn) (first cap : Array Value) (w : World), (Instr.makeFunc fn first cap).run Tryz.prog w = .ok (.func fn first cap) w := fun _ _ _ _ => rfl
  obtain ⟨a1, c1, rfl⟩ := hd.sized
  obtain ⟨a2, c2, rfl⟩ := hp.sized
  clear hd hp
  rcases Bool.eq_false_or_eq_true (inB nets 0 24) with hn | hn
  · have hn' := inB_iff.1 hn
    have HN1 := Lib.hid hn
    by_cases h24 : ds.length ≤ 24
    · by_cases h8 : ps.length ≤ 8
      · have HK := Lib.hid hok
        clear hok
        go_enter Tryz.func40, Tryz.ntmps40
        go_wp2_with (go_at_call 87; refine (within_any _ _ _ _).mono ?_; rintro e w' ⟨rfl, rfl⟩)
        go_loopw [24] (fun i wr => ∃ k : Nat, k ≤ ps.length ∧ i = .int .i64 k ∧ Hid (∀ (j : Nat), j < k → ptOk nets ps j = true) ∧ Blk wr w.heap.size #[.int .i64 nets, .slice a1 ds.length c1, .slice a2 ps.length c2] 35 ∧ Below w.heap.size w wr) (fun i _ => ps.length - (intOf i).toNat)
        case atStart => exact ⟨0, Nat.zero_le _, rfl, Lib.hid (by intro j hj; omega), blkT, blwT⟩
        case round =>
          obtain ⟨k, hk, rfl, HI, kN, hb⟩ := hrel
          have cN := kN.cell
          have lN := kN.lt
          by_cases hlt : k < ps.length
          · obtain ⟨x, hx⟩ : ∃ x, ps[k]? = some x := ⟨ps[k], List.getElem?_eq_getElem hlt⟩
            have HX := Lib.hid hx
            have HPS := HP.out
            rcases HPS with ⟨_, _, _, h2⟩ | ⟨b, off, cap, he, h2, h3, h4⟩
            · rw [h2] at hlt; simp at hlt
            obtain ⟨rfl, rfl⟩ : a2 = some ⟨b, off, none⟩ ∧ c2 = cap := by simpa using he
            obtain ⟨p1, p2⟩ := (h4 k x hx).by hb
            have lP := lt_of_cell p1
            dsimp only at lP
            have hsz : x.name.size ≤ 9223372036854775807 := (HK.out x (List.mem_of_getElem? hx)).1
            have i1 : (0 : Int) ≤ (k : Int) := by omega
            have i2 : (k : Int) < (ps.length : Int) := by omega
            clear hx he
            rcases Bool.eq_false_or_eq_true (nameB x.name) with hnm | hnm
            · rcases Bool.eq_false_or_eq_true (inB x.net 0 (nets - 1)) with hin | hin
              · by_cases hk0 : k = 0
                · have HK0 := Lib.hid hk0
                  have hx0 := HX.out
                  rw [hk0] at hx0
                  have HX0 := Lib.hid hx0
                  have hkz : decide (0 < k) = false := by rw [decide_eq_false_iff_not]; omega
                  clear h4 hk0 hx0
                  have HOK := Lib.hid (HK0.out.symm ▸ ptOk_zero HX0.out hnm hin : ptOk nets ps k = true)
                  go_wp2
                  go_quiet ((first | (go_at_call 88; exact Calls.quiet_of_same ((implIsName_any x.name _ hsz).mono fun _ _ h => ⟨h.1, h.2.symm⟩)) | (go_at_call 87; exact Calls.quiet_of_same ((within_any _ _ _ _).mono fun _ _ h => ⟨h.1, h.2.symm⟩))))
                  go_wp2
                  exact ⟨⟨k + 1, by omega, by go_num, Lib.hid (fun i hj => by
                    by_cases e : i = k
                    · subst e; exact HOK.out
                    · exact HI.out i (by omega)), blkT, blwT⟩, by simp [intOf]; omega⟩
                · obtain ⟨j, rfl⟩ : ∃ j, k = j + 1 := ⟨k - 1, by omega⟩
                  obtain ⟨y, hy⟩ : ∃ y, ps[j]? = some y := ⟨ps[j]'(by omega), List.getElem?_eq_getElem (by omega)⟩
                  have HY := Lib.hid hy
                  obtain ⟨q1, q2⟩ := (h4 j y hy).by hb
                  have j1 : (0 : Int) < (j : Int) + 1 := by omega
                  have j2 : (0 : Int) ≤ (j : Int) := by omega
                  have j3 : (j : Int) < (ps.length : Int) := by omega
                  have j4 : (j : Int) + 1 < (ps.length : Int) := by omega
                  clear hy h4
                  rcases Bool.eq_false_or_eq_true (Op.bytesLess y.name.toList x.name.toList) with hls | hls
                  · have HOK := Lib.hid (ptOk_succ HX.out HY.out hnm hin hls)
                    go_wp2
                    go_quiet ((first | (go_at_call 88; exact Calls.quiet_of_same ((implIsName_any x.name _ hsz).mono fun _ _ h => ⟨h.1, h.2.symm⟩)) | (go_at_call 87; exact Calls.quiet_of_same ((within_any _ _ _ _).mono fun _ _ h => ⟨h.1, h.2.symm⟩))))
                    go_wp2
                    exact ⟨⟨(j + 1) + 1, by omega, by go_num, Lib.hid (fun i hj => by
                      by_cases e : i = (j + 1)
                      · subst e; exact HOK.out
                      · exact HI.out i (by omega)), blkT, blwT⟩, by simp [intOf]; omega⟩
                  · have hr := Lib.hid (HPT.out _ hlt (ptOk_lt HX.out HY.out hls))
                    go_wp2
                    go_quiet ((first | (go_at_call 88; exact Calls.quiet_of_same ((implIsName_any x.name _ hsz).mono fun _ _ h => ⟨h.1, h.2.symm⟩)) | (go_at_call 87; exact Calls.quiet_of_same ((within_any _ _ _ _).mono fun _ _ h => ⟨h.1, h.2.symm⟩))))
                    go_wp2
                    go_ret
                    exact ⟨ret_bool hr.out.symm, blwT⟩
              · have hr := Lib.hid (HPT.out _ hlt (ptOk_net HX.out hin))
                go_wp2
                go_quiet ((first | (go_at_call 88; exact Calls.quiet_of_same ((implIsName_any x.name _ hsz).mono fun _ _ h => ⟨h.1, h.2.symm⟩)) | (go_at_call 87; exact Calls.quiet_of_same ((within_any _ _ _ _).mono fun _ _ h => ⟨h.1, h.2.symm⟩))))
                go_wp2
                go_ret
                exact ⟨ret_bool hr.out.symm, blwT⟩
            · have hr := Lib.hid (HPT.out _ hlt (ptOk_name HX.out hnm))
              go_wp2
              go_quiet ((first | (go_at_call 88; exact Calls.quiet_of_same ((implIsName_any x.name _ hsz).mono fun _ _ h => ⟨h.1, h.2.symm⟩)) | (go_at_call 87; exact Calls.quiet_of_same ((within_any _ _ _ _).mono fun _ _ h => ⟨h.1, h.2.symm⟩))))
              go_wp2
              go_ret
              exact ⟨ret_bool hr.out.symm, blwT⟩
          · obtain rfl : k = ps.length := by omega
            have hr := Lib.hid (HEN.out HN1.out h24 h8 (fun i hi => HI.out i hi))
            have eg : ∀ args w, (callFunc 90 args).run Tryz.prog w = .ok (.enter 90 args) w := enters_of Tryz.func90 (by kernel_rfl) rfl
            have hcl : ∀ (W : World) (x : Dv) (sv : Value), Below wr.heap.size wr W → x ∈ ds → IntSl W sv x.pins → Calls Tryz.prog 90 (#[.agg #[.int .i64 x.kind, sv, .int .i64 x.wd, .int .i64 x.len]] ++ #[.pointer (some ⟨w.heap.size, 0, none⟩)]) W fun e w' => e = .returned (.bool (!dvB nets x)) ∧ Below W.heap.size W w' := by
              intro W x sv hbW _ hS
              show Calls Tryz.prog 90 #[.agg #[.int .i64 x.kind, sv, .int .i64 x.wd, .int .i64 x.len], .pointer (some ⟨w.heap.size, 0, none⟩)] W _
              exact vnClosure_any x sv nets w.heap.size W (cell_by' hbW (by rw [cN]; rfl)) hS (by omega) (by omega)
            have HC := Lib.hid (containsFuncD_any 90 #[.pointer (some ⟨w.heap.size, 0, none⟩)] eg (fun d => !dvB nets d) _ ds wr (HD.out.by hb) hcl)
            rw [dvs_any] at HC
            clear eg hcl HI
            go_wp2_with (go_at_call 89; refine HC.out.mono ?_; rintro e w1 ⟨rfl, hb1⟩)
            go_ret
            exact ⟨ret_bool (by rw [hr.out]), blwT⟩
      · have hr := Lib.hid (HNP.out h8)
        go_enter Tryz.func40, Tryz.ntmps40
        go_wp2_with (go_at_call 87; refine (within_any _ _ _ _).mono ?_; rintro e w' ⟨rfl, rfl⟩)
        go_ret
        exact ⟨ret_bool hr.out.symm, blwT⟩
    · have hr := Lib.hid (HND.out h24)
      go_enter Tryz.func40, Tryz.ntmps40
      go_wp2_with (go_at_call 87; refine (within_any _ _ _ _).mono ?_; rintro e w' ⟨rfl, rfl⟩)
      go_ret
      exact ⟨ret_bool hr.out.symm, blwT⟩
  · have hr := Lib.hid (HNn.out hn)
    go_enter Tryz.func40, Tryz.ntmps40
    go_wp2_with (go_at_call 87; refine (within_any _ _ _ _).mono ?_; rintro e w' ⟨rfl, rfl⟩)
    go_ret
    exact ⟨ret_bool hr.out.symm, blwT⟩
def dcells : List Dv → List Value → List Value
  | d :: ds, p :: ps => .int .i64 d.kind :: p :: .int .i64 d.wd :: .int .i64 d.len :: dcells ds ps
  | _, _ => []
theorem dcells_push (ds : List Dv) (ps : List Value) (d : Dv) (p : Value) (h : ps.length = ds.length) : dcells (ds ++ [d]) (ps ++ [p]) = dcells ds ps ++ [.int .i64 d.kind, p, .int .i64 d.wd, .int .i64 d.len] := by
  induction ds generalizing ps with
  | nil => cases ps with
    | nil => rfl
    | cons => simp at h
  | cons y ys ih => cases ps with
    | nil => simp at h
    | cons q qs => simp at h; simp [dcells, ih qs h]
theorem dcells_get (ds : List Dv) (ps : List Value) (i : Nat) (d : Dv) (p : Value) (h : ds[i]? = some d) (hp : ps[i]? = some p) : (dcells ds ps)[i * 4]? = some (.int .i64 d.kind) ∧ (dcells ds ps)[i * 4 + 1]? = some p ∧ (dcells ds ps)[i * 4 + 2]? = some (.int .i64 d.wd) ∧ (dcells ds ps)[i * 4 + 3]? = some (.int .i64 d.len) := by
  induction ds generalizing ps i with
  | nil => simp at h
  | cons y ys ih => cases ps with
    | nil => simp at hp
    | cons q qs => cases i with
      | zero => simp at h hp; subst h hp; simp [dcells]
      | succ i =>
        simp at h hp
        have e : ∀ r, (dcells (y :: ys) (q :: qs))[(i + 1) * 4 + r]? = (dcells ys qs)[i * 4 + r]? := by
          intro r
          show (Value.int .i64 y.kind :: q :: Value.int .i64 y.wd :: Value.int .i64 y.len :: dcells ys qs)[(i + 1) * 4 + r]? = _
          rw [show (i + 1) * 4 + r = (i * 4 + r) + 1 + 1 + 1 + 1 by omega]
          simp only [List.getElem?_cons_succ]
        have e0 := e 0
        simp only [Nat.add_zero] at e0
        rw [e0, e 1, e 2, e 3]
        exact ih qs i h hp
def Bld (w : World) (lo hi : Nat) (v : Value) (ds : List Dv) : Prop := hi ≤ w.heap.size ∧ ∃ (pvs : List Value) (f : Nat → Nat), w.ownsRow lo 62 4 v ds.length (dcells ds pvs) ∧ pvs.length = ds.length ∧ (∀ g, v.ownBlock = some g → lo ≤ g ∧ g < hi) ∧
  (∀ i x pv, ds[i]? = some x → pvs[i]? = some pv → OwnR w (f i) (f i + 1) pv x.pins ∧ (lo ≤ f i ∧ f i < hi) ∧ v.ownBlock ≠ some (f i)) ∧ (∀ i j, i < ds.length → j < ds.length → i ≠ j → f i ≠ f j)
section
variable {w w' : World} {lo hi : Nat} {v : Value} {ds : List Dv}
theorem grown_within {row : Option Nat} (h : w.grownBy w' row) (hr : ∀ g, row = some g → lo ≤ g ∧ g < hi) : Within lo hi w w' :=
  ⟨h.os, h.tape, h.output, h.size, fun k hk hd => h.block k hk (fun e => by have := hr k e.symm; omega)⟩
theorem row_same {T : TypeId} {k n : Nat} {xs : List Value} (h : w.ownsRow lo T k v n xs) (hb : ∀ g, v.ownBlock = some g → w'.heap[g]? = w.heap[g]?) : w'.ownsRow lo T k v n xs := by
  obtain ⟨h1, h2⟩ := h
  refine ⟨h1, ?_⟩
  rcases h2 with h2 | ⟨g, cap, cur, e1, e2, e3, e4⟩
  · exact .inl h2
  · exact .inr ⟨g, cap, cur, e1, e2, by rw [hb g (by rw [e1]; rfl)]; exact e3, e4⟩
theorem Bld.nil (w : World) (lo : Nat) : Bld w lo w.heap.size (.slice none 0 0) [] :=
  ⟨Nat.le_refl _, [], fun _ => 0, World.ownsRow_nil w lo _ 4, rfl, (by intro g h; cases h), (by intro i x pv h; simp at h), (by intro i j h; simp at h)⟩
theorem Bld.by (hb : Below w.heap.size w w') (h : Bld w lo hi v ds) : Bld w' lo hi v ds := by
  obtain ⟨hs, pvs, f, h1, h2, h3, h4, h5⟩ := h
  refine ⟨Nat.le_trans hs hb.size, pvs, f, row_same h1 (fun g hg => hb.block g (by have := h3 g hg; omega)), h2, h3, fun i x pv hx hp => ?_, h5⟩
  obtain ⟨a, b, c⟩ := h4 i x pv hx hp
  exact ⟨OwnR.by hb a, b, c⟩
theorem Bld.past {lo' hi' : Nat} (hb : Within lo' hi' w w') (h : Bld w lo hi v ds) (hd : hi' ≤ lo ∨ hi ≤ lo') : Bld w' lo hi v ds := by
  obtain ⟨hs, pvs, f, h1, h2, h3, h4, h5⟩ := h
  refine ⟨Nat.le_trans hs hb.size, pvs, f, row_same h1 (fun g hg => hb.block g (by have := h3 g hg; omega) (by have := h3 g hg; omega)), h2, h3, fun i x pv hx hp => ?_, h5⟩
  obtain ⟨a, b, c⟩ := h4 i x pv hx hp
  exact ⟨OwnR.past hb a (by omega), b, c⟩
theorem Bld.sized (h : Bld w lo hi v ds) : ∃ a c, v = .slice a ds.length c := by
  obtain ⟨_, pvs, f, ⟨_, h1⟩, _⟩ := h
  rcases h1 with ⟨h1, h2⟩ | ⟨g, cap, cur, e1, _⟩
  · exact ⟨none, 0, by rw [h1, h2]⟩
  · exact ⟨_, _, e1⟩
theorem Bld.own (h : Bld w lo hi v ds) : OwnDs w lo hi v ds := by
  obtain ⟨hs, pvs, f, ⟨hlen, h1⟩, h2, h3, h4, h5⟩ := h
  rcases h1 with ⟨h1, hn⟩ | ⟨g, cap, cur, e1, e2, e3, e4, e5, e6, e7⟩
  · exact .inl ⟨_, _, h1, List.eq_nil_of_length_eq_zero hn⟩
  · have hcur : ∀ (j : Nat) u, (dcells ds pvs)[j]? = some u → cur[j]? = some u := by
      intro j u hu
      rw [← e7] at hu
      have hj : j < ds.length * 4 := by
        have := (List.getElem?_eq_some_iff.1 hu).1
        rw [List.length_take] at this; omega
      rw [List.getElem?_take_of_lt hj] at hu
      simpa using hu
    refine .inr ⟨g, cap, cur, f, e1, h3 g (by rw [e1]; rfl), e4, e5, e3, fun i x hx => ?_, h5⟩
    have hi : i < ds.length := (List.getElem?_eq_some_iff.1 hx).1
    obtain ⟨pv, hp⟩ : ∃ pv, pvs[i]? = some pv := ⟨pvs[i]'(by omega), List.getElem?_eq_getElem (by omega)⟩
    obtain ⟨a, b, c⟩ := h4 i x pv hx hp
    obtain ⟨q0, q1, q2, q3⟩ := dcells_get ds pvs i x pv hx hp
    refine ⟨⟨pv, ⟨hcur _ _ q0, hcur _ _ q1, hcur _ _ q2, hcur _ _ q3⟩, a⟩, b.1, b.2, fun e => c (by rw [e1, e]; rfl)⟩
end
theorem step_push {ops : Array Oper} {o : Oper} {a : Act} {w : World} {K : Act → World → Prop} {Q : Exit → Act → World → Prop} {E : Prop} (hgd : o.guard = none) (s x : Operand)
    (ho : o.op = .call { callee := .builtin .append, args := #[s, x], argTypes := #[32, 32] })
    (lo hi : Nat) (v : Value) (ds : List Dv) (hs : a.eval s = v) (hB : Bld w lo hi v ds) (nb : Nat) (d : Dv) (pv : Value) (fb : Nat) (hx : a.eval x = .slice (some ⟨nb, 0, none⟩) 1 1)
    (hnb : Blk w nb #[.int .i64 d.kind, pv, .int .i64 d.wd, .int .i64 d.len] 62) (hpv : OwnR w fb (fb + 1) pv d.pins) (hlo : lo ≤ hi) (hhi : hi ≤ fb) (hfb : fb < w.heap.size) (hn : ds.length ≤ 1000)
    (hK : ∀ a' c' w', Bld w' lo w'.heap.size (.slice a' (ds.length + 1) c') (ds ++ [d]) → Within lo hi w w' → K (a.put o.dst (.slice a' (ds.length + 1) c')) w') :
    if Region.wanted o (yielded ops a.tmps) = true then Oper.wp Tryz.prog o a w K Q else E := by
  obtain ⟨i0, hi0, hz0, hz1, hz2⟩ := info_parts infoDev
  obtain ⟨hsz, pvs, f, h1, h2, h3, h4, h5⟩ := hB
  have hone : pv.oneCell' = true := by
    rcases hpv with ⟨_, _, rfl, _⟩ | ⟨_, _, _, rfl, _⟩ <;> rfl
  refine step_append_lies w hgd s x 32 ho lo 62 i0 _ 4 48 Tryz.underlying32 hi0 hz0 hz1 hz2 rfl (by decide) v ds.length _ hs h1 ⟨nb, 0, none⟩ 1 1 [.int .i64 d.kind, pv, .int .i64 d.wd, .int .i64 d.len] hx rfl (World.news_of_block (cs := #[.int .i64 d.kind, pv, .int .i64 d.wd, .int .i64 d.len]) hnb) ?_ (by decide) (by unfold maxLen; omega) (by omega) (by omega) w.heap.size rfl ?_
  · intro u hu
    simp at hu
    rcases hu with rfl | rfl | rfl | rfl
    · rfl
    · exact hone
    · rfl
    · rfl
  · intro g cap w' hrow hgrow hg hgl
    have hW : Within lo hi w w' := grown_within hgrow h3
    refine hK (some ⟨g, 0, none⟩) cap w' ⟨Nat.le_refl _, pvs ++ [pv], fun i => if i = ds.length then fb else f i, ?_, by simp [h2], ?_, ?_, ?_⟩ hW
    · rw [List.length_append, List.length_singleton, dcells_push ds pvs d pv h2]; exact hrow
    · intro g' hg'
      have : g = g' := by injection hg'
      subst this
      rcases hg with h | h
      · have := h3 g h; omega
      · omega
    · intro i y pv' hy hp'
      by_cases hi' : i < ds.length
      · rw [List.getElem?_append_left hi'] at hy
        rw [List.getElem?_append_left (by omega)] at hp'
        obtain ⟨a1, b1, c1⟩ := h4 i y pv' hy hp'
        simp only [if_neg (show i ≠ ds.length by omega)]
        have hsep : ∀ g0, v.ownBlock = some g0 → g0 ≠ f i := fun g0 e1 e2 => c1 (by rw [e1, e2])
        refine ⟨?_, by have := hgrow.size; omega, ?_⟩
        · cases hv : v.ownBlock with
          | none => exact OwnR.by ⟨hgrow.os, hgrow.tape, hgrow.output, hgrow.size, fun k hk => hgrow.block k hk (by rw [hv]; simp)⟩ a1
          | some g0 => exact OwnR.past (grown_within (lo := g0) (hi := g0 + 1) hgrow (fun g1 e => by rw [hv] at e; cases e; omega)) a1 (by have := hsep g0 hv; omega)
        · intro e
          have : g = f i := by injection e
          rcases hg with h | h
          · exact hsep g h this
          · omega
      · have hil : i < (ds ++ [d]).length := (List.getElem?_eq_some_iff.1 hy).1
        simp at hil
        obtain rfl : i = ds.length := by omega
        rw [List.getElem?_append_right (Nat.le_refl _)] at hy
        rw [List.getElem?_append_right (by omega)] at hp'
        simp [h2] at hy hp'
        subst hy hp'
        simp only [if_true]
        refine ⟨OwnR.past hW hpv (by omega), by have := hgrow.size; omega, ?_⟩
        intro e
        have : g = fb := by injection e
        rcases hg with h | h
        · have := h3 g h; omega
        · omega
    · intro i j hi' hj' hij
      simp at hi' hj'
      by_cases e1 : i = ds.length
      · subst e1
        obtain ⟨y, hy⟩ : ∃ y, ds[j]? = some y := ⟨ds[j]'(by omega), List.getElem?_eq_getElem (by omega)⟩
        obtain ⟨p, hp⟩ : ∃ p, pvs[j]? = some p := ⟨pvs[j]'(by omega), List.getElem?_eq_getElem (by omega)⟩
        have := (h4 j y p hy hp).2.1
        simp only [if_true, if_neg (show j ≠ ds.length by omega)]
        omega
      · by_cases e2 : j = ds.length
        · subst e2
          obtain ⟨y, hy⟩ : ∃ y, ds[i]? = some y := ⟨ds[i]'(by omega), List.getElem?_eq_getElem (by omega)⟩
          obtain ⟨p, hp⟩ : ∃ p, pvs[i]? = some p := ⟨pvs[i]'(by omega), List.getElem?_eq_getElem (by omega)⟩
          have := (h4 i y p hy hp).2.1
          simp only [if_true, if_neg e1]
          omega
        · simp only [if_neg e1, if_neg e2]
          exact h5 i j (by omega) (by omega) hij
/- Copies of slices of ports. -/
def pcells : List Pt → List Value
  | p :: ps => .string p.name :: .int .i64 p.net :: pcells ps
  | [] => []
theorem length_pcells (ps : List Pt) : (pcells ps).length = ps.length * 2 := by
  induction ps with
  | nil => rfl
  | cons p ps ih => simp [pcells, ih]; omega
theorem pcells_get (ps : List Pt) (i : Nat) (p : Pt) (h : ps[i]? = some p) : (pcells ps)[i * 2]? = some (.string p.name) ∧ (pcells ps)[i * 2 + 1]? = some (.int .i64 p.net) := by
  induction ps generalizing i with
  | nil => simp at h
  | cons q qs ih => cases i with
    | zero => simp at h; subst h; simp [pcells]
    | succ i =>
      simp at h
      have e : ∀ r, (pcells (q :: qs))[(i + 1) * 2 + r]? = (pcells qs)[i * 2 + r]? := by
        intro r
        show (Value.string q.name :: Value.int .i64 q.net :: pcells qs)[(i + 1) * 2 + r]? = _
        rw [show (i + 1) * 2 + r = (i * 2 + r) + 1 + 1 by omega]
        simp only [List.getElem?_cons_succ]
      have e0 := e 0
      simp only [Nat.add_zero] at e0
      rw [e0, e 1]
      exact ih i h
theorem pcells_at (ps : List Pt) (j : Nat) (u : Value) (h : (pcells ps)[j]? = some u) : ∃ p, ps[j / 2]? = some p ∧ ((j % 2 = 0 ∧ u = .string p.name) ∨ (j % 2 = 1 ∧ u = .int .i64 p.net)) := by
  have hj : j < ps.length * 2 := by have := (List.getElem?_eq_some_iff.1 h).1; rwa [length_pcells] at this
  obtain ⟨p, hp⟩ : ∃ p, ps[j / 2]? = some p := ⟨ps[j / 2]'(by omega), List.getElem?_eq_getElem (by omega)⟩
  obtain ⟨e1, e2⟩ := pcells_get ps (j / 2) p hp
  refine ⟨p, hp, ?_⟩
  rcases Nat.mod_two_eq_zero_or_one j with hm | hm
  · left
    rw [show j / 2 * 2 = j by omega, h] at e1
    exact ⟨hm, Option.some.inj e1⟩
  · right
    rw [show j / 2 * 2 + 1 = j by omega, h] at e2
    exact ⟨hm, Option.some.inj e2⟩
section
variable {w w1 : World} {lo : Nat} {sv : Value} {ps : List Pt}
theorem src_ports (h : PtSl w sv ps) : Src Tryz.prog 2 33 sv ps.length (pcells ps) w := by
  have h1 : ∀ u ∈ pcells ps, u.oneCell' = true := by
    intro u hu
    obtain ⟨j, hj, e⟩ := List.mem_iff_getElem.1 hu
    obtain ⟨p, _, h⟩ := pcells_at ps j u (by rw [List.getElem?_eq_getElem hj, e])
    rcases h with ⟨_, rfl⟩ | ⟨_, rfl⟩ <;> rfl
  rcases h with ⟨a, c, rfl, rfl⟩ | ⟨b, off, cap, rfl, h2, h3, h4⟩
  · cases a with
    | none => exact Src.ofNil w Tryz.underlying33 c
    | some a => exact Src.ofSlice w Tryz.underlying33 a 0 c [] rfl (by simp) (by simp)
  · refine Src.ofSlice w Tryz.underlying33 _ _ _ _ (by rw [length_pcells]) (fun j u hu => ?_) h1
    obtain ⟨p, hp, hc⟩ := pcells_at ps j u hu
    obtain ⟨c1, c2⟩ := h4 _ p hp
    rw [Addr.add_lit]
    rcases hc with ⟨hm, rfl⟩ | ⟨hm, rfl⟩
    · have e : off + j / 2 * 2 = off + j := by omega
      rw [e] at c1; exact c1
    · have e : off + j / 2 * 2 + 1 = off + j := by omega
      rw [e] at c2; exact c2
theorem cloneP_run (h : PtSl w sv ps) (hn : ps.length ≤ 1048576) (b : Nat) (ty : TypeId) (hlo : lo ≤ w.heap.size) :
    ∃ v w', (Builtin.append_ #[33, 33] ty #[.slice (some ⟨b, 0, none⟩) 0 0, sv]).run Tryz.prog w = .ok v w' ∧ OwnPs w' lo w'.heap.size v ps ∧ Below w.heap.size w w' := by
  obtain ⟨i0, hi, hz0, hz1, hz2⟩ := info_parts infoPt
  have hS := src_ports h
  by_cases h0 : ps = []
  · subst h0
    have hr := run_append_room_src (P := Tryz.prog) w 33 33 ty 98 i0 Tryz.underlying33 hi b 0 0 0 sv 0 [] (by rw [hz1]; exact hS) (by omega) (by simp) (by simp)
    refine ⟨_, _, hr, .inl ⟨_, _, rfl, rfl⟩, ?_⟩
    exact Below.refl _ _
  · have hl : 0 < ps.length := List.length_pos_iff.2 h0
    have hr := run_append_grow_src (P := Tryz.prog) w 33 33 ty 98 i0 _ Tryz.underlying33 hi hz0 (some ⟨b, 0, none⟩) 0 0 [] (by rw [hz1]; exact run_firstCells_some w.drew 2 0 _ 0 0 [] rfl (by simp)) sv ps.length (pcells ps) (by rw [hz1]; exact hS) (by omega) (by omega)
      (by rw [hz2]; simp only [Builtin.nextslicecap, Nat.mul_zero, Nat.zero_add]; rw [if_pos (by omega)]; omega)
    refine ⟨_, _, hr, .inr ⟨w.heap.size, grownCap w (0 + ps.length) 0 98, _, by rw [Nat.zero_add], ⟨hlo, by simp⟩, by have := grownCap_ge w (0 + ps.length) 0 98; omega, grownCap_le_maxLen _ _ _ _ (by unfold maxLen; omega), Blk.new _ rfl, ?_⟩, ((Below.refl _ _).drew).alloc (Nat.le_refl _) _⟩
    intro i x hx
    have hi := (List.getElem?_eq_some_iff.1 hx).1
    obtain ⟨e1, e2⟩ := pcells_get ps i x hx
    have hl2 := length_pcells ps
    refine ⟨?_, ?_⟩
    · rw [Array.getElem?_append_left (by simp [hl2]; omega)]; simpa using e1
    · rw [Array.getElem?_append_left (by simp [hl2]; omega)]; simpa using e2
end
theorem list_cloneP {ops : Array Oper} {rest : List Oper} {o : Oper} {a : Act} {w : World} {Q : Exit → Act → World → Prop} (hgd : o.guard = none) (s x : Operand)
    (ho : o.op = .call { callee := .builtin .append, args := #[s, x], argTypes := #[33, 33] })
    (b : Nat) (hs : a.eval s = .slice (some ⟨b, 0, none⟩) 0 0) (sv : Value) (ps : List Pt) (hx : a.eval x = sv) (h : PtSl w sv ps) (hn : ps.length ≤ 1048576) (lo : Nat) (hlo : lo ≤ w.heap.size)
    (hK : ∀ v w', OwnPs w' lo w'.heap.size v ps → Below w.heap.size w w' → wpList Tryz.prog ops Q rest (a.put o.dst v) w') : wpList Tryz.prog ops Q (o :: rest) a w :=
  wpList_plain hgd fun _ hK' => by
    obtain ⟨v, w', hr, h2, h3⟩ := cloneP_run h hn b o.type hlo
    unfold Oper.wp execOp
    simp only [ho, resolve, invoke, builtin, Sem.run_bind, Sem.run_pure, Result.andThen_ok, List.map_toArray, List.map_cons, List.map_nil, hs, hx, hr]
    exact hK' _ _ (hK v w' h2 h3)
set_option maxRecDepth 100000 in
set_option maxHeartbeats 1000000 in
theorem cloneP_any (sv : Value) (ps : List Pt) (w : World) (h : PtSl w sv ps) (hn : ps.length ≤ 1048576) :
    Calls Tryz.prog 123 #[sv] w fun e w' => ∃ v, e = .returned v ∧ OwnPs w' w.heap.size w'.heap.size v ps ∧ Below w.heap.size w w' := by
  obtain ⟨a, c, rfl⟩ := h.sized
  have q22 : ∀ (w : World) (a : Option Addr) (n c n' c' : Nat), (binOp .eql 33 (.slice a n c) (.slice none n' c')).run Tryz.prog w = .ok (.bool a.isNone) w := fun w a n c n' c' => Lib.run_eql_slice_nil w _ _ a n c n' c' Tryz.underlying33
  cases a with
  | none =>
    have hz : ps = [] := by
      rcases h with ⟨_, _, _, h2⟩ | ⟨b, off, cap, h1, _⟩
      · exact h2
      · simp at h1
    subst hz
    go_enter Tryz.func123, Tryz.ntmps123
    go_wp2
    refine bodyPost_ret (v := .slice none 0 0) (by simp [results, Tryz.results123, go_sem, *]) rfl ⟨_, rfl, .inl ⟨_, _, rfl, rfl⟩, blwT⟩
  | some ad =>
    go_enter Tryz.func123, Tryz.ntmps123
    go_wp2_with ((refine list_cloneP (by rfl) _ _ (by rfl) _ (by rfl) _ ps (by rfl) (h.by blwT) hn w.heap.size (by simp; try omega) ?_; intro v w3 hO hb3; have HO := Lib.hid hO; obtain ⟨a1, c1, rfl⟩ := hO.sl.sized; clear hO))
    refine bodyPost_ret (v := .slice a1 ps.length c1) (by simp [results, Tryz.results123, go_sem, *]) rfl ⟨_, rfl, HO.out, blwT⟩
/- copyNetlist. -/
theorem OwnI.pin {w : World} {lo : Nat} {sv : Value} {zs : List Int} (h : OwnI w lo sv zs) (hne : zs ≠ []) : ∃ g, lo ≤ g ∧ g < w.heap.size ∧ OwnR w g (g + 1) sv zs := by
  rcases h with ⟨_, _, _, h⟩ | ⟨g, cap, cs, h1, h2, h3, h4, h5, h6⟩
  · exact absurd h hne
  · exact ⟨g, h2, h5.lt, .inr ⟨g, cap, cs, h1, Nat.le_refl _, Nat.lt_succ_self _, h3, h4, h5, h6⟩⟩
set_option maxRecDepth 100000 in
set_option maxHeartbeats 4000000 in
theorem copyNetlist_any (x : Nl) (v : Value) (w : World) (h : NlV w v x) (hl : x.ds.length ≤ 1000) (hpl : x.ps.length ≤ 1048576) (hpn : ∀ d ∈ x.ds, d.pins.length ≤ 1048576 ∧ d.pins ≠ []) :
    Calls Tryz.prog 76 #[v] w fun e w' => ∃ v', e = .returned v' ∧ OwnNl w' w.heap.size w'.heap.size v' x ∧ Below w.heap.size w w' := by
  obtain ⟨s1, s2, rfl, hd, hp⟩ := h
  obtain ⟨nets, ds, ps⟩ := x
  dsimp only at hd hp hl hpl hpn ⊢
  have HD := Lib.hid hd
  have HP := Lib.hid hp
  have HPN := Lib.hid hpn
  have HCL := Lib.hid (fun w h => cloneP_any s2 ps w h hpl)
  obtain ⟨a1, c1, rfl⟩ := hd.sized
  obtain ⟨a2, c2, rfl⟩ := hp.sized
  clear hd hp hpn
  go_enter Tryz.func76, Tryz.ntmps76
  go_upto_region 1 with fail
  go_cut [3] (fun s3 wx => ∃ (p : Nat) (a3 : Option Addr) (c3 lo2 hi2 : Nat), s3 = .pointer (some ⟨p, 0, none⟩) ∧ Blk wx p #[.int .i64 nets, .slice none 0 0, .slice a3 ps.length c3] 35 ∧ Blk wx w.heap.size #[.int .i64 nets, .slice a1 ds.length c1, .slice a2 ps.length c2] 35 ∧ Blk wx (w.heap.size + 1) #[.int .i64 0, .slice none 0 0, .slice none 0 0] 35 ∧ OwnPs wx lo2 hi2 (.slice a3 ps.length c3) ps ∧ (w.heap.size + 1 < p ∧ w.heap.size + 1 < lo2 ∧ hi2 ≤ wx.heap.size ∧ (p < lo2 ∨ hi2 ≤ p)) ∧ Below w.heap.size w wx)
  case first =>
    go_region_held3 ((fun w' => (Blk w' (w.heap.size) #[.int .i64 nets, .slice a1 ds.length c1, .slice a2 ps.length c2] 35 ∧ ∀ o, w'.cell? ⟨w.heap.size, o, none⟩ = (#[.int .i64 nets, .slice a1 ds.length c1, .slice a2 ps.length c2] : Array Value)[o]?) ∧ Below w.heap.size w w')) (((try (obtain ⟨⟨hS0, _⟩, hSB⟩ := hHeld)); refine ⟨Blk.both ?_, ?_⟩ <;> first | ((repeat (first | (with_reducible assumption) | (with_reducible refine Blk.drewN ?_ _) | (with_reducible refine Blk.drew ?_) | ((with_reducible refine Blk.new _ ?_); focus (first | omega | (simp; done) | (simp; omega))) | (with_reducible refine Blk.past ?_ _) | ((with_reducible refine Blk.apart ?_ _ _ _ ?_); rotate_left; focus (first | omega | (simp; done) | (simp; omega))) | (with_reducible refine Blk.by (by assumption) ?_))); done) | ((repeat (first | (with_reducible exact Below.refl _ _) | (with_reducible refine below_drewN ?_ _) | (with_reducible refine Below.drew ?_) | (with_reducible refine below_al ?_ _) | (with_reducible refine below_on (by assumption) ?_) | ((with_reducible refine Below.setCell ?_ ?_ _); rotate_left; focus (first | omega | (simp; done) | (simp; omega))) | (with_reducible assumption))); done)))
      (first | (go_at_call 123; refine (HCL.out _ (HP.out.by blwT)).mono ?_; rintro e w1 ⟨v1, rfl, hO, hb1⟩; have HO := Lib.hid hO; obtain ⟨a3, c3, rfl⟩ := hO.sl.sized; clear hO; (try (refine with_fact (p := Blk w1 (w.heap.size + 1 + 1) #[.int .i64 0, .slice none 0 0, .slice none 0 0] 35) (Blk.by hb1 ?_) ?_; (focus ((repeat (first | (with_reducible assumption) | (with_reducible refine Blk.drewN ?_ _) | (with_reducible refine Blk.drew ?_) | ((with_reducible refine Blk.new _ ?_); focus (first | omega | (simp; done) | (simp; omega))) | (with_reducible refine Blk.past ?_ _) | ((with_reducible refine Blk.apart ?_ _ _ _ ?_); rotate_left; focus (first | omega | (simp; done) | (simp; omega))) | (with_reducible refine Blk.by (by assumption) ?_))); done)); intro k3; have c3' := k3.cell; have f3' := k3.free))))
    all_goals (go_wp2_with fail; go_meet)
    all_goals have hlw := hb1.size
    all_goals simp only [World.size_alloc, World.size_drew] at hlw
    · refine ⟨_, a3, c3, w.heap.size + 1 + 1, w1.heap.size, rfl, Blk.new _ rfl, blkT, blkT, ?_, ⟨by omega, by omega, by simp, by omega⟩, blwT⟩
      exact (HO.out.by ((Below.refl _ w1).alloc (Nat.le_refl _) _)).wide (by simp) (by simp)
    · refine ⟨_, a3, c3, w.heap.size + 1 + 1 + 1, w1.heap.size, rfl, (((k3.set 0 _).set 1 _).set 2 _), blkT, blkT, ?_, ⟨by omega, by omega, by simp, by omega⟩, blwT⟩
      exact (((HO.out.past (Within.off _) (by simp)).past (Within.off _) (by simp)).past (Within.off _) (by simp)).wide (by simp) (by simp)
  case rest =>
    obtain ⟨p, a3, c3, lo2, hi2, rfl, kP, kN, kZ, hO, ⟨hp1, hp2, hp3, hp4⟩, hb⟩ := hcut
    have HO := Lib.hid hO
    have lP := kP.lt
    have hbl := hb.size
    have cN := kN.cell
    obtain ⟨B, hB⟩ : ∃ B, wc.heap.size = B := ⟨_, rfl⟩
    rw [hB] at lP hbl
    have hBl := Bld.nil wc wc.heap.size
    rw [hB] at hBl hp3
    have HO1 := Lib.hid hO
    have lPB : p < B := lP
    clear hO HO
    have HB := Lib.hid hB
    clear hB
    go_wp2
    go_loopw [15] (fun i wr => ∃ (k : Nat) (v : Value) (hi : Nat), k ≤ ds.length ∧ B ≤ hi ∧ i = .int .i64 k ∧ Bld wr B hi v (ds.take k) ∧ Blk wr p #[.int .i64 nets, v, .slice a3 ps.length c3] 35 ∧ Blk wr (w.heap.size + 1) #[.int .i64 0, .slice none 0 0, .slice none 0 0] 35 ∧ OwnPs wr lo2 hi2 (.slice a3 ps.length c3) ps ∧ Below w.heap.size w wr) (fun i _ => ds.length - (intOf i).toNat)
    case atStart => exact ⟨0, .slice none 0 0, B, Nat.zero_le _, Nat.le_refl _, rfl, hBl, kP, kZ, HO1.out, hb⟩
    case round =>
      clear kP kZ kN cN hb hBl
      obtain ⟨k, v, hi, hk, hBhi, rfl, hBl, kP, kZ, hO, hb⟩ := hrel
      have HO := Lib.hid hO
      have HBL := Lib.hid hBl
      have lP := kP.lt
      obtain ⟨av, cv, rfl⟩ := hBl.sized
      have hhi := hBl.1
      clear hO hBl
      by_cases hlt : k < ds.length
      · obtain ⟨x, hx⟩ : ∃ x, ds[k]? = some x := ⟨ds[k], List.getElem?_eq_getElem hlt⟩
        have HDS := HD.out
        rcases HDS with ⟨_, _, _, h2⟩ | ⟨b, off, cap, he, h2, h3, h4⟩
        · rw [h2] at hlt; simp at hlt
        obtain ⟨rfl, rfl⟩ : a1 = some ⟨b, off, none⟩ ∧ c1 = cap := by simpa using he
        obtain ⟨hxl, hxn⟩ := HPN.out x (List.mem_of_getElem? hx)
        obtain ⟨sx, d1, d2, d3, d4, hSx⟩ := (h4 k x hx).by hb
        have lX := lt_of_cell d1
        dsimp only at lX
        have HCD := Lib.hid (fun w h => copyDevice_any x.kind x.wd x.len sx x.pins w h hxl)
        have HSX := Lib.hid hSx
        have HX := Lib.hid hx
        have HXN := Lib.hid hxn
        have htk := List.length_take (i := k) (l := ds)
        obtain ⟨ax, cx, rfl⟩ := hSx.len
        have i1 : (0 : Int) ≤ (k : Int) := by omega
        have i2 : (k : Int) < (ds.length : Int) := by omega
        obtain ⟨wo, rfl⟩ : ∃ wo : World, wo = wr := ⟨_, rfl⟩
        have htl : (ds.take k).length = k := by rw [List.length_take]; omega
        have HTL := Lib.hid htl
        have kA : Blk (wo.alloc (.cells #[.int .i64 x.kind, .slice ax x.pins.length cx, .int .i64 x.wd, .int .i64 x.len] 62)) wo.heap.size #[.int .i64 x.kind, .slice ax x.pins.length cx, .int .i64 x.wd, .int .i64 x.len] 62 := Blk.new _ rfl
        have kP' := kP.past (.cells #[.int .i64 x.kind, .slice ax x.pins.length cx, .int .i64 x.wd, .int .i64 x.len] 62)
        have hb' := below_al hb (.cells #[.int .i64 x.kind, .slice ax x.pins.length cx, .int .i64 x.wd, .int .i64 x.len] 62)
        rw [htl] at kP' kP
        clear h4 hx hxn he hSx htk htl
        have hBL2 := HBL.out
        rw [HTL.out] at hBL2
        have HBL2 := Lib.hid hBL2
        clear hBL2
        clear HBL
        have cP : wo.cell? ⟨p, 1, none⟩ = some (.slice av k cv) := kP.cell 1
        have kP1' := kP'.drew
        go_wp2
        go_region_law
          (first | (go_simp; go_at_call 115; refine (HCD.out _ (HSX.out.by blwT)).mono ?_; rintro e w1 ⟨v1, rfl, hOI, hb1⟩; obtain ⟨fb, hf1, hf2, hOR⟩ := hOI.pin HXN.out; have HOR := Lib.hid hOR; obtain ⟨a1', c1', rfl⟩ := hOR.sl.len; clear hOR hOI; (try simp at hf1); have kP1 := Blk.by hb1 kP1'; have cP1 : w1.cell? ⟨p, 1, none⟩ = some (.slice av k cv) := kP1.cell 1; have lP1 := kP1.lt; dsimp only) | (refine step_push (by rfl) _ _ (by rfl) B hi _ (ds.take k) (by rfl) (HBL2.out.by blwT) w1.heap.size x _ fb (by rfl) (Blk.new _ rfl) (HOR.out.by ((Below.refl _ w1).alloc (Nat.le_refl _) _)) (by omega) (by omega) (by simp; omega) (by rw [HTL.out]; omega) ?_; intro a' c' w3 hBl3 hw3; have HBL3 := Lib.hid hBl3; have kP3 := hw3.blk ((Blk.by hb1 kP'.drew).past (.cells #[.int .i64 x.kind, .slice a1' x.pins.length c1', .int .i64 x.wd, .int .i64 x.len] 62)) (by omega); have cP3 : w3.cell? ⟨p, 1, none⟩ = some (.slice av k cv) := kP3.cell 1; have fP3 : w3.frozen? ⟨p, 1, none⟩ = false := kP3.free 1; have lP3 := kP3.lt; clear hBl3))
        all_goals
          have hsz3 := hw3.size
          simp only [World.size_alloc] at hsz3
          have hb3 := hw3.below (below_al (below_on hb1 hb'.drew) (.cells #[.int .i64 x.kind, .slice a1' x.pins.length c1', .int .i64 x.wd, .int .i64 x.len] 62)) (by omega)
          have kZ3 := hw3.blk ((Blk.by hb1 ((kZ.past (.cells #[.int .i64 x.kind, .slice ax x.pins.length cx, .int .i64 x.wd, .int .i64 x.len] 62)).drew)).past (.cells #[.int .i64 x.kind, .slice a1' x.pins.length c1', .int .i64 x.wd, .int .i64 x.len] 62)) (by omega)
          have hO3 := ((((HO.out.by ((Below.refl _ wo).alloc (Nat.le_refl _) (.cells #[.int .i64 x.kind, .slice ax x.pins.length cx, .int .i64 x.wd, .int .i64 x.len] 62))).by (below_of_drewN _ 1)).by hb1).by ((Below.refl _ w1).alloc (Nat.le_refl _) (.cells #[.int .i64 x.kind, .slice a1' x.pins.length c1', .int .i64 x.wd, .int .i64 x.len] 62))).past hw3 (by omega)
          have hl1 := hb1.size
          simp only [World.size_alloc, World.size_drew] at hl1
          go_wp2
          have hB4 := HBL3.out
          rw [HTL.out] at hB4
          have hW4 : Within p (p + 1) w3 (w3.setCell ⟨p, 1, none⟩ (.slice a' (k + 1) c')) := Within.off _
          have hO4 := OwnPs.past (lo := lo2) (hi := hi2) hW4 hO3 (by omega)
          refine ⟨⟨k + 1, .slice a' (k + 1) c', w3.heap.size, by omega, by omega, by go_num, ?_, kP3.set 1 _, kZ3.apart p 1 _ (by omega), hO4, hb3.setCell (by simp; omega) _⟩, by simp [intOf]; omega⟩
          rw [take_snoc_of ds k x HX.out]
          exact hB4.past hW4 (by omega)
      · obtain rfl : k = ds.length := by omega
        have hBL2 := HBL.out
        rw [List.take_length] at hBL2 kP
        have HOD := Lib.hid hBL2.own
        have c1' := kP.cell
        have c2' := kZ.cell
        have f2' := kZ.free
        have l2' := kZ.lt
        clear HBL hBL2
        go_wp2
        refine bodyPost_ret (v := .agg #[.int .i64 nets, .slice av ds.length cv, .slice a3 ps.length c3]) (by simp [results, Tryz.results76, go_sem, *]) rfl ⟨_, rfl, ⟨_, _, B, hi, lo2, hi2, rfl, ?_, ?_, ⟨hbl, by simp; omega⟩, ⟨by omega, by simp; omega⟩, .inr hp3⟩, ?_⟩
        · exact (((HOD.out.past (Within.off _) (by omega)).past (Within.off _) (by omega)).past (Within.off _) (by omega))
        · exact (((HO.out.past (Within.off _) (by omega)).past (Within.off _) (by omega)).past (Within.off _) (by omega))
        · repeat (first | (with_reducible exact hb) | ((with_reducible refine Below.setCell ?_ ?_ _); rotate_left; focus (simp; try omega)))
theorem pcells_push (ps : List Pt) (p : Pt) : pcells (ps ++ [p]) = pcells ps ++ [.string p.name, .int .i64 p.net] := by
  induction ps with
  | nil => rfl
  | cons q qs ih => simp [pcells, ih]
def BldP (w : World) (lo hi : Nat) (v : Value) (ps : List Pt) : Prop := hi ≤ w.heap.size ∧ w.ownsRow lo 98 2 v ps.length (pcells ps) ∧ (∀ g, v.ownBlock = some g → lo ≤ g ∧ g < hi)
section
variable {w w' : World} {lo hi : Nat} {v : Value} {ps : List Pt}
theorem BldP.nil (w : World) (lo : Nat) : BldP w lo w.heap.size (.slice none 0 0) [] :=
  ⟨Nat.le_refl _, World.ownsRow_nil w lo _ 2, by intro g h; cases h⟩
theorem BldP.by (hb : Below w.heap.size w w') (h : BldP w lo hi v ps) : BldP w' lo hi v ps := by
  obtain ⟨hs, h1, h3⟩ := h
  exact ⟨Nat.le_trans hs hb.size, row_same h1 (fun g hg => hb.block g (by have := h3 g hg; omega)), h3⟩
theorem BldP.past {lo' hi' : Nat} (hb : Within lo' hi' w w') (h : BldP w lo hi v ps) (hd : hi' ≤ lo ∨ hi ≤ lo') : BldP w' lo hi v ps := by
  obtain ⟨hs, h1, h3⟩ := h
  exact ⟨Nat.le_trans hs hb.size, row_same h1 (fun g hg => hb.block g (by have := h3 g hg; omega) (by have := h3 g hg; omega)), h3⟩
theorem BldP.sized (h : BldP w lo hi v ps) : ∃ a c, v = .slice a ps.length c := by
  obtain ⟨_, ⟨_, h1⟩, _⟩ := h
  rcases h1 with ⟨h1, h2⟩ | ⟨g, cap, cur, e1, _⟩
  · exact ⟨none, 0, by rw [h1, h2]⟩
  · exact ⟨_, _, e1⟩
theorem BldP.own (h : BldP w lo hi v ps) : OwnPs w lo hi v ps := by
  obtain ⟨hs, ⟨hlen, h1⟩, h3⟩ := h
  rcases h1 with ⟨h1, hn⟩ | ⟨g, cap, cur, e1, e2, e3, e4, e5, e6, e7⟩
  · exact .inl ⟨_, _, h1, List.eq_nil_of_length_eq_zero hn⟩
  · have hcur : ∀ (j : Nat) u, (pcells ps)[j]? = some u → cur[j]? = some u := by
      intro j u hu
      rw [← e7] at hu
      have hj : j < ps.length * 2 := by
        have := (List.getElem?_eq_some_iff.1 hu).1
        rw [List.length_take] at this; omega
      rw [List.getElem?_take_of_lt hj] at hu
      simpa using hu
    refine .inr ⟨g, cap, cur, e1, h3 g (by rw [e1]; rfl), e4, e5, e3, fun i x hx => ?_⟩
    obtain ⟨q0, q1⟩ := pcells_get ps i x hx
    exact ⟨hcur _ _ q0, hcur _ _ q1⟩
end
theorem step_pushP {ops : Array Oper} {o : Oper} {a : Act} {w : World} {K : Act → World → Prop} {Q : Exit → Act → World → Prop} {E : Prop} (hgd : o.guard = none) (s x : Operand)
    (ho : o.op = .call { callee := .builtin .append, args := #[s, x], argTypes := #[33, 33] })
    (lo hi : Nat) (v : Value) (ps : List Pt) (hs : a.eval s = v) (hB : BldP w lo hi v ps) (nb : Nat) (p : Pt) (hx : a.eval x = .slice (some ⟨nb, 0, none⟩) 1 1)
    (hnb : Blk w nb #[.string p.name, .int .i64 p.net] 98) (hlo : lo ≤ hi) (hn : ps.length ≤ 1000)
    (hK : ∀ a' c' w', BldP w' lo w'.heap.size (.slice a' (ps.length + 1) c') (ps ++ [p]) → Within lo hi w w' → K (a.put o.dst (.slice a' (ps.length + 1) c')) w') :
    if Region.wanted o (yielded ops a.tmps) = true then Oper.wp Tryz.prog o a w K Q else E := by
  obtain ⟨i0, hi0, hz0, hz1, hz2⟩ := info_parts infoPt
  obtain ⟨hsz, h1, h3⟩ := hB
  refine step_append_lies w hgd s x 33 ho lo 98 i0 _ 2 24 Tryz.underlying33 hi0 hz0 hz1 hz2 rfl (by decide) v ps.length _ hs h1 ⟨nb, 0, none⟩ 1 1 [.string p.name, .int .i64 p.net] hx rfl (World.news_of_block (cs := #[.string p.name, .int .i64 p.net]) hnb) ?_ (by decide) (by unfold maxLen; omega) (by omega) (by omega) w.heap.size rfl ?_
  · intro u hu
    simp at hu
    rcases hu with rfl | rfl
    · rfl
    · rfl
  · intro g cap w' hrow hgrow hg hgl
    have hW : Within lo hi w w' := grown_within hgrow h3
    refine hK (some ⟨g, 0, none⟩) cap w' ⟨Nat.le_refl _, ?_, ?_⟩ hW
    · rw [List.length_append, List.length_singleton, pcells_push]; exact hrow
    · intro g' hg'
      have : g = g' := by injection hg'
      subst this
      rcases hg with h | h
      · have := h3 g h; omega
      · omega
/- Netlists with other numbers of nets: the plain part. -/
def nmOf (names : List Int) (p : Int) : Int := names.getD p.toNat 0
def renD (names : List Int) (d : Dv) : Dv := ⟨d.kind, d.pins.map (nmOf names), d.wd, d.len⟩
def renP (names : List Int) (p : Pt) : Pt := ⟨p.name, nmOf names p.net⟩
def renS (x : Nl) (names : List Int) (nets : Int) : Nl := ⟨nets, x.ds.map (renD names), x.ps.map (renP names)⟩
def renTo (names : List Int) (zs : List Int) (k : Nat) : List Int := (zs.take k).map (nmOf names) ++ zs.drop k
theorem renTo_zero (names zs : List Int) : renTo names zs 0 = zs := by simp [renTo]
theorem renTo_all (names zs : List Int) : renTo names zs zs.length = zs.map (nmOf names) := by simp [renTo]
theorem renTo_get (names zs : List Int) (k : Nat) (z : Int) (h : zs[k]? = some z) : (renTo names zs k)[k]? = some z := by
  have hk := (List.getElem?_eq_some_iff.1 h).1
  rw [renTo, List.getElem?_append_right (by simp; omega)]
  simp
  rw [show k - min k zs.length = 0 by omega]
  simpa using h
theorem renTo_step (names zs : List Int) (k : Nat) (z : Int) (h : zs[k]? = some z) : (renTo names zs k).set k (nmOf names z) = renTo names zs (k + 1) := by
  have hk := (List.getElem?_eq_some_iff.1 h).1
  apply List.ext_getElem?
  intro i
  have e : zs[k] = z := by rw [List.getElem?_eq_getElem hk] at h; exact Option.some.inj h
  unfold renTo
  rw [take_snoc_of zs k z h]
  by_cases hi : i = k
  · subst hi
    rw [List.getElem?_set_self (by simp; omega)]
    rw [List.getElem?_append_left (by simp; omega), List.map_append, List.getElem?_append_right (by simp; omega)]
    simp
    rw [show i - min i zs.length = 0 by omega]
    rfl
  · rw [List.getElem?_set_ne (by omega)]
    by_cases hlt : i < k
    · rw [List.getElem?_append_left (by simp; omega), List.getElem?_append_left (by simp; omega), List.map_append, List.getElem?_append_left (by simp; omega)]
    · rw [List.getElem?_append_right (by simp; omega), List.getElem?_append_right (by simp; omega)]
      simp
      congr 1
      omega
theorem take_map_snoc {α β : Type} (f : α → β) (xs : List α) (k : Nat) (x : α) (h : xs[k]? = some x) : (xs.take (k + 1)).map f = (xs.take k).map f ++ [f x] := by
  rw [take_snoc_of xs k x h]; simp
def ICs (cs : Array Value) (zs : List Int) : Prop := ∀ (i : Nat) (z : Int), zs[i]? = some z → cs[i]? = some (Value.int .i64 z)
theorem ICs.set {cs : Array Value} {zs : List Int} (h : ICs cs zs) (k : Nat) (v : Int) : ICs (cs.setIfInBounds k (.int .i64 v)) (zs.set k v) := by
  intro i z hz
  have hi : i < zs.length := by have := (List.getElem?_eq_some_iff.1 hz).1; simpa using this
  have hc := h i zs[i] (List.getElem?_eq_getElem hi)
  have hs := (Array.getElem?_eq_some_iff.1 hc).1
  by_cases e : k = i
  · subst e
    rw [List.getElem?_set_self hi] at hz
    cases hz
    simp [Array.getElem?_setIfInBounds, hs]
  · rw [List.getElem?_set_ne e] at hz
    rw [Array.getElem?_setIfInBounds, if_neg e]
    exact h i z hz
theorem ICs.own {w : World} {g cap : Nat} {cs : Array Value} {zs : List Int} (h : ICs cs zs) (hB : Blk w g cs 2) (h1 : zs.length ≤ cap) (h2 : cap ≤ maxLen) : OwnR w g (g + 1) (.slice (some ⟨g, 0, none⟩) zs.length cap) zs :=
  .inr ⟨g, cap, cs, rfl, Nat.le_refl _, Nat.lt_succ_self _, h1, h2, hB, h⟩
theorem OwnR.cells {w : World} {lo hi : Nat} {sv : Value} {zs : List Int} (h : OwnR w lo hi sv zs) (hz : zs ≠ []) : ∃ g cap cs, sv = .slice (some ⟨g, 0, none⟩) zs.length cap ∧ (lo ≤ g ∧ g < hi) ∧ zs.length ≤ cap ∧ cap ≤ maxLen ∧ Blk w g cs 2 ∧ ICs cs zs := by
  rcases h with ⟨_, _, _, h⟩ | ⟨g, cap, cs, h1, h2, h2', h3, h4, h5, h6⟩
  · exact absurd h hz
  · exact ⟨g, cap, cs, h1, ⟨h2, h2'⟩, h3, h4, h5, h6⟩
/- The two pushes at a plain list of operations. -/
/- One device's pins, one port's net, turned in place. -/
theorem OwnDs.setPins {w : World} {lo hi : Nat} {sv : Value} {ds : List Dv} {k : Nat} {x : Dv} (h : OwnDs w lo hi sv ds) (hx : ds[k]? = some x) :
    ∃ (g cap : Nat) (cs : Array Value) (fb : Nat) (pv : Value), sv = .slice (some ⟨g, 0, none⟩) ds.length cap ∧ Blk w g cs 62 ∧ Cs4 cs k (.int .i64 x.kind) pv (.int .i64 x.wd) (.int .i64 x.len) ∧ OwnR w fb (fb + 1) pv x.pins ∧ (lo ≤ fb ∧ fb < hi) ∧ (lo ≤ g ∧ g < hi) ∧ fb ≠ g ∧ ds.length ≤ maxLen ∧
      ∀ w' zs, zs.length = x.pins.length → Within fb (fb + 1) w w' → OwnR w' fb (fb + 1) pv zs → OwnDs w' lo hi sv (ds.set k ⟨x.kind, zs, x.wd, x.len⟩) := by
  rcases h with ⟨_, _, _, rfl⟩ | ⟨g, cap, cs, f, h1, h2, h3, h4, h5, h6, h7⟩
  · simp at hx
  obtain ⟨⟨pv, c4, hR⟩, hf⟩ := h6 k x hx
  have hk := (List.getElem?_eq_some_iff.1 hx).1
  refine ⟨g, cap, cs, f k, pv, h1, h5, c4, hR, ⟨hf.1, hf.2.1⟩, h2, hf.2.2, by omega, fun w' zs hzl hW hR' => ?_⟩
  refine .inr ⟨g, cap, cs, f, by rw [List.length_set]; exact h1, h2, by rw [List.length_set]; exact h3, h4, hW.blk h5 (by omega), fun i y hy => ?_, fun i j hi hj hij => h7 i j (by rwa [List.length_set] at hi) (by rwa [List.length_set] at hj) hij⟩
  by_cases e : k = i
  · subst e
    rw [List.getElem?_set_self hk] at hy
    cases hy
    exact ⟨⟨pv, c4, hR'⟩, hf⟩
  · rw [List.getElem?_set_ne e] at hy
    obtain ⟨⟨pv', c4', hR2⟩, hf'⟩ := h6 i y hy
    have hi := (List.getElem?_eq_some_iff.1 hy).1
    have := h7 k i hk hi e
    exact ⟨⟨pv', c4', OwnR.past hW hR2 (by omega)⟩, hf'⟩
theorem OwnPs.setNet {w : World} {lo hi : Nat} {sv : Value} {ps : List Pt} {k : Nat} {x : Pt} (h : OwnPs w lo hi sv ps) (hx : ps[k]? = some x) :
    ∃ (g cap : Nat) (cs : Array Value), sv = .slice (some ⟨g, 0, none⟩) ps.length cap ∧ Blk w g cs 98 ∧ Cs2 cs k (.string x.name) (.int .i64 x.net) ∧ (lo ≤ g ∧ g < hi) ∧ ps.length ≤ maxLen ∧
      ∀ w' z, Blk w' g (cs.setIfInBounds (k * 2 + 1) (.int .i64 z)) 98 → OwnPs w' lo hi sv (ps.set k ⟨x.name, z⟩) := by
  rcases h with ⟨_, _, _, rfl⟩ | ⟨g, cap, cs, h1, h2, h3, h4, h5, h6⟩
  · simp at hx
  have hk := (List.getElem?_eq_some_iff.1 hx).1
  refine ⟨g, cap, cs, h1, h5, h6 k x hx, h2, by omega, fun w' z hB => ?_⟩
  refine .inr ⟨g, cap, _, by rw [List.length_set]; exact h1, h2, by rw [List.length_set]; exact h3, h4, hB, fun i y hy => ?_⟩
  obtain ⟨q0, q1⟩ := h6 k x hx
  have hs := (Array.getElem?_eq_some_iff.1 q1).1
  by_cases e : k = i
  · subst e
    rw [List.getElem?_set_self hk] at hy
    cases hy
    refine ⟨?_, ?_⟩ <;> simp only [Array.getElem?_setIfInBounds]
    · rw [if_neg (by omega)]; exact q0
    · rw [if_pos trivial, if_pos hs]
  · rw [List.getElem?_set_ne e] at hy
    obtain ⟨r0, r1⟩ := h6 i y hy
    refine ⟨?_, ?_⟩ <;> simp only [Array.getElem?_setIfInBounds]
    · rw [if_neg (by omega)]; exact r0
    · rw [if_neg (by omega)]; exact r1
section
variable {α : Type} (f : α → α)
def upTo (xs : List α) (k : Nat) : List α := (xs.take k).map f ++ xs.drop k
theorem upTo_zero (xs : List α) : upTo f xs 0 = xs := by simp [upTo]
theorem upTo_all (xs : List α) : upTo f xs xs.length = xs.map f := by simp [upTo]
theorem length_upTo (xs : List α) (k : Nat) : (upTo f xs k).length = xs.length := by simp [upTo]; omega
theorem upTo_get (xs : List α) (k : Nat) (x : α) (h : xs[k]? = some x) : (upTo f xs k)[k]? = some x := by
  have hk := (List.getElem?_eq_some_iff.1 h).1
  rw [upTo, List.getElem?_append_right (by simp; omega)]
  simp
  rw [show k - min k xs.length = 0 by omega]
  simpa using h
theorem upTo_step (xs : List α) (k : Nat) (x : α) (h : xs[k]? = some x) : (upTo f xs k).set k (f x) = upTo f xs (k + 1) := by
  have hk := (List.getElem?_eq_some_iff.1 h).1
  apply List.ext_getElem?
  intro i
  have e : xs[k] = x := by rw [List.getElem?_eq_getElem hk] at h; exact Option.some.inj h
  unfold upTo
  rw [take_snoc_of xs k x h]
  by_cases hi : i = k
  · subst hi
    rw [List.getElem?_set_self (by simp; omega)]
    rw [List.getElem?_append_left (by simp; omega), List.map_append, List.getElem?_append_right (by simp; omega)]
    simp
    rw [show i - min i xs.length = 0 by omega]
    rfl
  · rw [List.getElem?_set_ne (by omega)]
    by_cases hlt : i < k
    · rw [List.getElem?_append_left (by simp; omega), List.getElem?_append_left (by simp; omega), List.map_append, List.getElem?_append_left (by simp; omega)]
    · rw [List.getElem?_append_right (by simp; omega), List.getElem?_append_right (by simp; omega)]
      simp
      congr 1
      omega
end
def iota (n : Nat) : List Int := (List.range n).map (fun (i : Nat) => (i : Int))
theorem length_iota (n : Nat) : (iota n).length = n := by simp [iota]
theorem iota_get (n i : Nat) (h : i < n) : (iota n)[i]? = some (i : Int) := by simp [iota, h]
theorem mem_iota (n : Nat) (z : Int) : z ∈ iota n ↔ 0 ≤ z ∧ z < n := by
  simp only [iota, List.mem_map, List.mem_range]
  constructor
  · rintro ⟨i, hi, rfl⟩; omega
  · intro h; exact ⟨z.toNat, by omega, by omega⟩
theorem pairwise_iota (n : Nat) : (iota n).Pairwise (fun x y => decide (x ≤ y) = true) := by
  rw [List.pairwise_iff_getElem]
  intro i j hi hj hij
  simp [iota]; omega
theorem nodup_iota (n : Nat) : (iota n).Nodup := by
  unfold List.Nodup
  rw [List.pairwise_iff_getElem]
  intro i j hi hj hij
  simp [iota]; omega
theorem perm_of_nodup : ∀ (l r : List Int), l.Nodup → (∀ z ∈ l, z ∈ r) → r.length ≤ l.length → l.Perm r
  | [], r, _, _, h => by
    have : r = [] := List.eq_nil_of_length_eq_zero (by simpa using h)
    subst this; exact List.Perm.nil
  | a :: l, r, hn, hs, h => by
    rw [List.nodup_cons] at hn
    have ha : a ∈ r := hs a (by simp)
    have hp := List.perm_cons_erase ha
    refine (List.Perm.cons a (perm_of_nodup l (r.erase a) hn.2 (fun z hz => ?_) ?_)).trans hp.symm
    · rw [List.mem_erase_of_ne (fun e => hn.1 (by rw [← e]; exact hz))]
      exact hs z (by simp [hz])
    · rw [List.length_erase_of_mem ha]; simp at h; omega
def permB (zs : List Int) (n : Int) : Bool := decide ((zs.length : Int) = n ∧ zs.Nodup ∧ ∀ z ∈ zs, 0 ≤ z ∧ z < n)
theorem permB_iff {zs : List Int} {n : Int} : permB zs n = true ↔ ((zs.length : Int) = n ∧ zs.Nodup ∧ ∀ z ∈ zs, 0 ≤ z ∧ z < n) := by simp [permB]
theorem permB_perm {zs : List Int} {n : Int} (h : permB zs n = true) : zs.Perm (iota zs.length) := by
  obtain ⟨h1, h2, h3⟩ := permB_iff.1 h
  refine perm_of_nodup _ _ h2 (fun z hz => ?_) (by rw [length_iota]; exact Nat.le_refl _)
  rw [mem_iota, h1]; exact h3 z hz
def srt (zs : List Int) : List Int := zs.mergeSort (fun x y => decide (x ≤ y))
theorem length_srt (zs : List Int) : (srt zs).length = zs.length := by simp [srt]
theorem srt_perm (zs : List Int) : (srt zs).Perm zs := List.mergeSort_perm _ _
theorem srt_pairwise (zs : List Int) : (srt zs).Pairwise (fun x y => decide (x ≤ y) = true) :=
  List.pairwise_mergeSort (fun a b c h1 h2 => by simp at *; omega) (fun a b => by simp; omega) zs
theorem srt_of_perm {xs ys : List Int} (h : xs.Perm ys) (hy : ys.Pairwise (fun x y => decide (x ≤ y) = true)) : srt xs = ys :=
  List.Perm.eq_of_pairwise (fun a b _ _ h1 h2 => by simp at h1 h2; omega) (srt_pairwise xs) hy ((srt_perm xs).trans h)
theorem srt_permB {zs : List Int} {n : Int} (h : permB zs n = true) : srt zs = iota zs.length := srt_of_perm (permB_perm h) (pairwise_iota _)
theorem permB_srt_no {zs : List Int} {n : Int} {k : Nat} {v : Int} (hk : (srt zs)[k]? = some v) (hne : v ≠ k) : permB zs n = false := by
  cases h : permB zs n with
  | false => rfl
  | true =>
    have hl := (List.getElem?_eq_some_iff.1 hk).1
    rw [length_srt] at hl
    rw [srt_permB h, iota_get _ _ hl] at hk
    cases hk; exact absurd rfl hne
theorem permB_srt_all {zs : List Int} {n : Int} (h : ∀ (k : Nat) v, (srt zs)[k]? = some v → v = k) : permB zs n = decide ((zs.length : Int) = n) := by
  have e : srt zs = iota zs.length := by
    apply List.ext_getElem?
    intro k
    by_cases hk : k < zs.length
    · rw [iota_get _ _ hk, List.getElem?_eq_getElem (by rw [length_srt]; exact hk)]
      rw [h k _ (List.getElem?_eq_getElem (by rw [length_srt]; exact hk))]
    · rw [List.getElem?_eq_none (by rw [length_srt]; omega), List.getElem?_eq_none (by rw [length_iota]; omega)]
  by_cases hn : (zs.length : Int) = n
  · rw [decide_eq_true hn, permB_iff]
    have hp : zs.Perm (iota zs.length) := by rw [← e]; exact (srt_perm zs).symm
    refine ⟨hn, hp.nodup_iff.2 (nodup_iota _), fun z hz => ?_⟩
    have := (mem_iota _ _).1 (hp.mem_iff.1 hz)
    omega
  · rw [decide_eq_false hn]
    cases h' : permB zs n with
    | false => rfl
    | true => exact absurd (permB_iff.1 h').1 hn
theorem permB_dup {zs : List Int} {n z : Int} {i j : Nat} (hij : i < j) (hi : zs[i]? = some z) (hj : zs[j]? = some z) : permB zs n = false := by
  cases h' : permB zs n with
  | false => rfl
  | true =>
    have h2 := (permB_iff.1 h').2.1
    unfold List.Nodup at h2
    rw [List.pairwise_iff_getElem] at h2
    obtain ⟨li, ei⟩ := List.getElem?_eq_some_iff.1 hi
    obtain ⟨lj, ej⟩ := List.getElem?_eq_some_iff.1 hj
    exact absurd (ei.trans ej.symm) (h2 i j li lj hij)
theorem permB_all {zs : List Int} {n : Int} (h1 : ∀ z ∈ zs, 0 ≤ z ∧ z < n) (h2 : ∀ (i j : Nat) z, i < j → zs[i]? = some z → zs[j]? = some z → False) : permB zs n = decide ((zs.length : Int) = n) := by
  by_cases hn : (zs.length : Int) = n
  · rw [decide_eq_true hn, permB_iff]
    refine ⟨hn, ?_, h1⟩
    unfold List.Nodup
    rw [List.pairwise_iff_getElem]
    intro i j li lj hij e
    exact h2 i j zs[i] hij (List.getElem?_eq_getElem li) (by rw [e]; exact List.getElem?_eq_getElem lj)
  · rw [decide_eq_false hn]
    cases h' : permB zs n with
    | false => rfl
    | true => exact absurd (permB_iff.1 h').1 hn
def invTo (zs : List Int) : Nat → List Int
  | 0 => List.replicate zs.length 0
  | k + 1 => (invTo zs k).set (zs.getD k 0).toNat k
def invS (zs : List Int) : List Int := invTo zs zs.length
theorem length_invTo (zs : List Int) (k : Nat) : (invTo zs k).length = zs.length := by
  induction k with
  | zero => simp [invTo]
  | succ k ih => simp [invTo, ih]
theorem length_invS (zs : List Int) : (invS zs).length = zs.length := length_invTo _ _
theorem invTo_step (zs : List Int) (k : Nat) (z : Int) (h : zs[k]? = some z) : invTo zs (k + 1) = (invTo zs k).set z.toNat k := by
  simp [invTo, List.getD, h]
theorem invTo_get {zs : List Int} {n : Int} (hp : permB zs n = true) (k i : Nat) (z : Int) (hik : i < k) (hk : k ≤ zs.length) (hz : zs[i]? = some z) : (invTo zs k)[z.toNat]? = some (i : Int) := by
  obtain ⟨h1, h2, h3⟩ := permB_iff.1 hp
  induction k with
  | zero => omega
  | succ k ih =>
    obtain ⟨y, hy⟩ : ∃ y, zs[k]? = some y := ⟨zs[k], List.getElem?_eq_getElem (by omega)⟩
    rw [invTo_step zs k y hy]
    have hzr := h3 z (List.mem_of_getElem? hz)
    have hyr := h3 y (List.mem_of_getElem? hy)
    by_cases e : i = k
    · subst e
      rw [hz] at hy; cases hy
      rw [List.getElem?_set_self (by rw [length_invTo]; omega)]
    · have hne : y.toNat ≠ z.toNat := by
        intro e'
        have : y = z := by omega
        subst this
        have := permB_dup (n := n) (show i < k by omega) hz hy
        rw [this] at hp; cases hp
      rw [List.getElem?_set_ne hne]
      exact ih (by omega) (by omega)
theorem invS_get {zs : List Int} {n : Int} (hp : permB zs n = true) (i : Nat) (z : Int) (hz : zs[i]? = some z) : (invS zs)[z.toNat]? = some (i : Int) :=
  invTo_get hp _ i z (List.getElem?_eq_some_iff.1 hz).1 (Nat.le_refl _) hz
theorem permB_has {zs : List Int} {n : Int} (hp : permB zs n = true) (k : Int) (h0 : 0 ≤ k) (h1 : k < n) : ∃ i : Nat, zs[i]? = some k := by
  have := (permB_perm hp).mem_iff (a := k)
  rw [mem_iota] at this
  have hl := (permB_iff.1 hp).1
  obtain ⟨i, hi, e⟩ := List.mem_iff_getElem.1 (this.2 ⟨h0, by omega⟩)
  exact ⟨i, by rw [List.getElem?_eq_getElem hi, e]⟩
theorem invS_inv {zs : List Int} {n : Int} (hp : permB zs n = true) (k : Nat) (hk : (k : Int) < n) : ∃ i : Nat, (invS zs)[k]? = some (i : Int) ∧ zs[i]? = some (k : Int) := by
  obtain ⟨i, hi⟩ := permB_has hp k (by omega) hk
  have := invS_get hp i k hi
  exact ⟨i, by simpa using this, hi⟩
theorem permB_invS {zs : List Int} {n : Int} (hp : permB zs n = true) : permB (invS zs) n = true := by
  obtain ⟨h1, h2, h3⟩ := permB_iff.1 hp
  have hl := length_invS zs
  have key : ∀ (k : Nat) v, (invS zs)[k]? = some v → ∃ i : Nat, v = i ∧ zs[i]? = some (k : Int) := by
    intro k v hv
    have hk := (List.getElem?_eq_some_iff.1 hv).1
    obtain ⟨i, e1, e2⟩ := invS_inv hp k (by omega)
    rw [e1] at hv; cases hv
    exact ⟨i, rfl, e2⟩
  rw [permB_all, hl, decide_eq_true h1]
  · intro z hz
    obtain ⟨k, hk, e⟩ := List.mem_iff_getElem.1 hz
    obtain ⟨i, e1, e2⟩ := key k z (by rw [List.getElem?_eq_getElem hk, e])
    have := (List.getElem?_eq_some_iff.1 e2).1
    omega
  · intro a b z hab ha hb
    obtain ⟨i, e1, e2⟩ := key a z ha
    obtain ⟨j, e3, e4⟩ := key b z hb
    have : i = j := by omega
    subst this
    rw [e2] at e4; simp at e4; omega
def thruS (zs ys : List Int) : List Int := zs.map fun z => ys.getD z.toNat 0
theorem length_thruS (zs ys : List Int) : (thruS zs ys).length = zs.length := by simp [thruS]
theorem thru_inv {zs : List Int} {n : Int} (hp : permB zs n = true) : thruS zs (invS zs) = iota zs.length := by
  apply List.ext_getElem?
  intro i
  by_cases hi : i < zs.length
  · rw [iota_get _ _ hi]
    have hz : zs[i]? = some zs[i] := List.getElem?_eq_getElem hi
    have := invS_get hp i zs[i] hz
    simp [thruS, List.getD, hz, this]
  · rw [List.getElem?_eq_none (by rw [length_thruS]; omega), List.getElem?_eq_none (by rw [length_iota]; omega)]
theorem inv_thru {zs : List Int} {n : Int} (hp : permB zs n = true) : thruS (invS zs) zs = iota zs.length := by
  apply List.ext_getElem?
  intro i
  have hl := length_invS zs
  have hn := (permB_iff.1 hp).1
  by_cases hi : i < zs.length
  · rw [iota_get _ _ hi]
    obtain ⟨j, e1, e2⟩ := invS_inv hp i (by omega)
    simp [thruS, List.getD, e1, e2]
  · rw [List.getElem?_eq_none (by rw [length_thruS, hl]; omega), List.getElem?_eq_none (by rw [length_iota]; omega)]
/- A slice of int64 that grows in memory of the call's own. -/
def icells (zs : List Int) : List Value := zs.map (Value.int .i64)
theorem icells_push (zs ys : List Int) : icells (zs ++ ys) = icells zs ++ icells ys := by simp [icells]
def BldI (w : World) (lo hi : Nat) (v : Value) (zs : List Int) : Prop := hi ≤ w.heap.size ∧ w.ownsRow lo 2 1 v zs.length (icells zs) ∧ (∀ g, v.ownBlock = some g → lo ≤ g ∧ g < hi)
section
variable {w w' : World} {lo hi : Nat} {v : Value} {zs : List Int}
theorem BldI.nil (w : World) (lo : Nat) : BldI w lo w.heap.size (.slice none 0 0) [] :=
  ⟨Nat.le_refl _, World.ownsRow_nil w lo _ 1, by intro g h; cases h⟩
theorem BldI.lit {g : Nat} {cs : Array Value} (h : Blk w g cs 2) (hcs : cs.toList = icells zs) (hm : zs.length ≤ 1048576) (hlo : lo ≤ g) (hhi : g < hi) (hs : hi ≤ w.heap.size) : BldI w lo hi (.slice (some ⟨g, 0, none⟩) zs.length zs.length) zs := by
  have hl : cs.size = zs.length := by rw [← Array.length_toList, hcs]; simp [icells]
  refine ⟨hs, ⟨by simp [icells], .inr ⟨g, zs.length, cs, rfl, hlo, h, Nat.le_refl _, by unfold maxLen; omega, by omega, ?_⟩⟩, ?_⟩
  · rw [hcs, Nat.mul_one, List.take_of_length_le (by simp [icells])]
  · intro g' hg'
    have : g = g' := by injection hg'
    omega
theorem BldI.by (hb : Below w.heap.size w w') (h : BldI w lo hi v zs) : BldI w' lo hi v zs := by
  obtain ⟨hs, h1, h3⟩ := h
  exact ⟨Nat.le_trans hs hb.size, row_same h1 (fun g hg => hb.block g (by have := h3 g hg; omega)), h3⟩
theorem BldI.past {lo' hi' : Nat} (hb : Within lo' hi' w w') (h : BldI w lo hi v zs) (hd : hi' ≤ lo ∨ hi ≤ lo') : BldI w' lo hi v zs := by
  obtain ⟨hs, h1, h3⟩ := h
  exact ⟨Nat.le_trans hs hb.size, row_same h1 (fun g hg => hb.block g (by have := h3 g hg; omega) (by have := h3 g hg; omega)), h3⟩
theorem BldI.sized (h : BldI w lo hi v zs) : ∃ a c, v = .slice a zs.length c := by
  obtain ⟨_, ⟨_, h1⟩, _⟩ := h
  rcases h1 with ⟨h1, h2⟩ | ⟨g, cap, cur, e1, _⟩
  · exact ⟨none, 0, by rw [h1, h2]⟩
  · exact ⟨_, _, e1⟩
theorem BldI.own (h : BldI w lo hi v zs) : OwnR w lo hi v zs := by
  obtain ⟨hs, ⟨hlen, h1⟩, h3⟩ := h
  rcases h1 with ⟨h1, hn⟩ | ⟨g, cap, cur, e1, e2, e3, e4, e5, e6, e7⟩
  · exact .inl ⟨_, _, h1, List.eq_nil_of_length_eq_zero hn⟩
  · have h4 := h3 g (by rw [e1]; rfl)
    refine .inr ⟨g, cap, cur, e1, h4.1, h4.2, e4, e5, e3, fun i x hx => ?_⟩
    have hi' : i < zs.length := (List.getElem?_eq_some_iff.1 hx).1
    have : (icells zs)[i]? = some (.int .i64 x) := by simp [icells, hx]
    rw [← e7, List.getElem?_take_of_lt (by omega)] at this
    simpa using this
end
theorem step_pushI {ops : Array Oper} {o : Oper} {a : Act} {w : World} {K : Act → World → Prop} {Q : Exit → Act → World → Prop} {E : Prop} (hgd : o.guard = none) (s x : Operand)
    (ho : o.op = .call { callee := .builtin .append, args := #[s, x], argTypes := #[27, 27] })
    (lo hi : Nat) (v : Value) (zs ys : List Int) (hs : a.eval s = v) (hB : BldI w lo hi v zs) (nb m : Nat) (cs : Array Value) (hx : a.eval x = .slice (some ⟨nb, 0, none⟩) m m) (hys : ys.length = m) (hm : 0 < m)
    (hnb : Blk w nb cs 2) (hcs : cs.toList = icells ys) (hlo : lo ≤ hi) (hn : zs.length + m ≤ 8000000)
    (hK : ∀ a' c' w', BldI w' lo w'.heap.size (.slice a' (zs.length + m) c') (zs ++ ys) → Within lo hi w w' → K (a.put o.dst (.slice a' (zs.length + m) c')) w') :
    if Region.wanted o (yielded ops a.tmps) = true then Oper.wp Tryz.prog o a w K Q else E := by
  obtain ⟨i0, hi0, hz0, hz1, hz2⟩ := info_parts infoI
  obtain ⟨hsz, h1, h3⟩ := hB
  refine step_append_lies w hgd s x 27 ho lo 2 i0 _ 1 8 Tryz.underlying27 hi0 hz0 hz1 hz2 rfl (by decide) v zs.length _ hs h1 ⟨nb, 0, none⟩ m m (icells ys) hx (by simp [icells, hys]) (by rw [← hcs]; exact World.news_of_block (cs := cs) hnb) ?_ hm (by unfold maxLen; omega) (by omega) (by omega) w.heap.size rfl ?_
  · intro u hu
    simp only [icells, List.mem_map] at hu
    obtain ⟨_, _, rfl⟩ := hu
    rfl
  · intro g cap w' hrow hgrow hg hgl
    have hW : Within lo hi w w' := grown_within hgrow h3
    refine hK (some ⟨g, 0, none⟩) cap w' ⟨Nat.le_refl _, ?_, ?_⟩ hW
    · rw [List.length_append, hys, icells_push]; exact hrow
    · intro g' hg'
      have : g = g' := by injection hg'
      subst this
      rcases hg with h | h
      · have := h3 g h; omega
      · omega
theorem list_pushI {ops : Array Oper} {rest : List Oper} {o : Oper} {a : Act} {w : World} {Q : Exit → Act → World → Prop} (hgd : o.guard = none) (s x : Operand)
    (ho : o.op = .call { callee := .builtin .append, args := #[s, x], argTypes := #[27, 27] })
    (lo hi : Nat) (v : Value) (zs ys : List Int) (hs : a.eval s = v) (hB : BldI w lo hi v zs) (nb m : Nat) (cs : Array Value) (hx : a.eval x = .slice (some ⟨nb, 0, none⟩) m m) (hys : ys.length = m) (hm : 0 < m)
    (hnb : Blk w nb cs 2) (hcs : cs.toList = icells ys) (hlo : lo ≤ hi) (hn : zs.length + m ≤ 8000000)
    (hK : ∀ a' c' w', BldI w' lo w'.heap.size (.slice a' (zs.length + m) c') (zs ++ ys) → Within lo hi w w' → wpList Tryz.prog ops Q rest (a.put o.dst (.slice a' (zs.length + m) c')) w') : wpList Tryz.prog ops Q (o :: rest) a w :=
  wpList_plain hgd fun K hk => by
    have h := step_pushI (ops := ops) (K := K) (Q := Q) (E := False) hgd s x ho lo hi v zs ys hs hB nb m cs hx hys hm hnb hcs hlo hn (fun a' c' w' h1 h2 => hk _ _ (hK a' c' w' h1 h2))
    rwa [if_pos (by simp [Region.wanted, hgd])] at h
section
variable {P : Program} {ops : Array Oper} {Q : Exit → Act → World → Prop} {md : Region.Mode} {S : World → Prop} {l : Nat}
theorem opsL {i : Nat} {oi : Oper} (hi : ops.toList[i]? = some oi) : ops[i]? = some oi := by rw [← Array.getElem?_toList]; exact hi
theorem wpAnyE_takeL {i : Nat} {oi : Oper} {v : Value} {fuel : Nat} {listed : Array Bool} {a : Act} {w : World} (hi : ops.toList[i]? = some oi)
    (hk : (Region.noSelect ops && Region.free md ops listed i && (Region.ready md ops listed).contains i && headB md ops l listed && Region.sinkB md ops l && Region.chainB md ops l && decide (l < ops.size) && decide (i < l)) = true)
    (hQ : ∀ c a w, Q (.panic c) (a.put oi.dst v) w → Q (.panic c) a w) (hy : YieldsIf P ops S oi v a) (hS : S w)
    (h : wpAnyE P md ops Q S l fuel (listed.setIfInBounds i true) (a.put oi.dst v) w) : wpAnyE P md ops Q S l (fuel + 1) listed a w :=
  wpAnyE_take (opsL hi) hk hQ hy hS h
theorem wpAnyE_oneL {k : Nat} {o : Oper} {fuel : Nat} {listed : Array Bool} {a : Act} {w : World} (hr : Region.ready md ops listed = [k]) (ho : ops.toList[k]? = some o)
    (h : ∀ K' : Act → World → Prop, Shut (∀ a w, (k ≠ l → S w) → wpAnyE P md ops Q S l fuel (listed.setIfInBounds k true) a w → K' a w) → if Region.wanted o (yielded ops a.tmps) = true then Oper.wp P o a w K' Q else K' (a.put o.dst undef) w) :
    wpAnyE P md ops Q S l (fuel + 1) listed a w := wpAnyE_one hr (opsL ho) h
theorem wpAnyE_twoL {k k' : Nat} {o o' : Oper} {fuel : Nat} {listed : Array Bool} {a : Act} {w : World} (hr : Region.ready md ops listed = [k, k']) (ho : ops.toList[k]? = some o) (ho' : ops.toList[k']? = some o')
    (h : ∀ K' : Act → World → Prop, Shut (∀ a w, (k ≠ l → S w) → wpAnyE P md ops Q S l fuel (listed.setIfInBounds k true) a w → K' a w) → if Region.wanted o (yielded ops a.tmps) = true then Oper.wp P o a w K' Q else K' (a.put o.dst undef) w)
    (h' : ∀ K' : Act → World → Prop, Shut (∀ a w, (k' ≠ l → S w) → wpAnyE P md ops Q S l fuel (listed.setIfInBounds k' true) a w → K' a w) → if Region.wanted o' (yielded ops a.tmps) = true then Oper.wp P o' a w K' Q else K' (a.put o'.dst undef) w) :
    wpAnyE P md ops Q S l (fuel + 1) listed a w := by
  refine ⟨fun h0 => (by rw [h0] at hr; cases hr), fun i hi => ?_⟩
  rw [hr] at hi
  have hik : i = k ∨ i = k' := by simpa using hi
  rcases hik with rfl | rfl
  · exact wpOp_step (opsL ho) (fun K' hK => h K' (fun a w hS hW => hK a w ⟨hS, hW⟩))
  · exact wpOp_step (opsL ho') (fun K' hK => h' K' (fun a w hS hW => hK a w ⟨hS, hW⟩))
end
theorem icells_set (zs : List Int) (i : Nat) (y : Int) : icells (zs.set i y) = (icells zs).set i (.int .i64 y) := by simp [icells, List.map_set]
theorem BldI.setAt {w : World} {lo hi G n cap : Nat} {zs : List Int} (h : BldI w lo hi (.slice (some ⟨G, 0, none⟩) n cap) zs) (i : Nat) (y : Int) : BldI (w.setCell ⟨G, i, none⟩ (.int .i64 y)) lo hi (.slice (some ⟨G, 0, none⟩) n cap) (zs.set i y) := by
  obtain ⟨hs, ⟨hlen, r⟩, h3⟩ := h
  refine ⟨by simpa using hs, ⟨by simp [icells], ?_⟩, h3⟩
  rcases r with ⟨r1, _⟩ | ⟨g, cap', cur, e1, e2, e3, e4, e5, e6, e7⟩
  · cases r1
  · have hg : G = g := by have := congrArg Value.ownBlock e1; simpa [Value.ownBlock] using this
    subst hg
    refine .inr ⟨G, cap', cur.setIfInBounds i (.int .i64 y), by rw [List.length_set]; exact e1, e2, Blk.set e3 i _, by rw [List.length_set]; exact e4, e5, by simpa using e6, ?_⟩
    rw [icells_set, ← e7, List.length_set, Array.toList_setIfInBounds, List.take_set]
theorem BldI.blk {w : World} {lo hi : Nat} {v : Value} {zs : List Int} (h : BldI w lo hi v zs) (h0 : 0 < zs.length) :
    ∃ G cap cs, v = .slice (some ⟨G, 0, none⟩) zs.length cap ∧ (lo ≤ G ∧ G < hi) ∧ Blk w G cs 2 ∧ ∀ (i : Nat) z, zs[i]? = some z → w.cell? ⟨G, i, none⟩ = some (.int .i64 z) := by
  obtain ⟨hs, ⟨hlen, r⟩, h3⟩ := h
  rcases r with ⟨_, r1⟩ | ⟨g, cap', cur, rfl, e2, e3, e4, e5, e6, e7⟩
  · omega
  · refine ⟨g, cap', cur, rfl, h3 g rfl, e3, fun i z hz => ?_⟩
    have hi : i < zs.length := (List.getElem?_eq_some_iff.1 hz).1
    have : (icells zs)[i]? = some (.int .i64 z) := by simp [icells, hz]
    rw [← e7, List.getElem?_take_of_lt (by omega)] at this
    rw [Blk.cell e3]
    simpa using this
set_option maxRecDepth 100000 in
set_option maxHeartbeats 1000000 in
theorem l27Identity_any (m : Nat) (hm : m ≤ 1000) (w : World) :
    Calls Tryz.prog 151 #[.int .i64 (m : Int)] w fun e w' => ∃ v, e = .returned v ∧ BldI w' w.heap.size w'.heap.size v (iota m) ∧ Below w.heap.size w w' := by
  have HI := Lib.hid (fun k : Nat => show iota (k + 1) = iota k ++ [(k : Int)] by simp [iota, List.range_succ])
  have HL := Lib.hid (fun k : Nat => length_iota k)
  go_enter Tryz.func151, Tryz.ntmps151
  go_wp2
  go_loopw [3, 4] (fun u i wr => ∃ (k hi : Nat), k ≤ m ∧ i = .int .i64 (k : Int) ∧ Hid (BldI wr w.heap.size hi u (iota k)) ∧ w.heap.size < hi ∧ Below w.heap.size w wr) (fun _ i _ => m - (intOf i).toNat)
  case atStart =>
    refine ⟨0, w.heap.size + 1, Nat.zero_le _, rfl, Lib.hid ?_, by omega, blwT⟩
    have hB : Blk (w.alloc (.cells #[] 2)) w.heap.size #[] 2 := Blk.new _ rfl
    exact BldI.lit (zs := []) hB rfl (by simp) (Nat.le_refl _) (by omega) (by simp)
  case round =>
    obtain ⟨k, hi, hk, rfl, HB, hhi, hb⟩ := hrel
    obtain ⟨a, c, rfl⟩ := HB.out.sized
    rw [HL.out k] at HB ⊢
    have hIs := HB.out.1
    have hlk := HL.out k
    have HLK := Lib.hid hlk
    by_cases hlt : k < m
    · have HX := Lib.hid (HI.out k)
      have i1 : (k : Int) < (m : Int) := by omega
      obtain ⟨Z, hZ⟩ : ∃ Z, iota k = Z := ⟨_, rfl⟩
      rw [hZ] at HB HLK HX
      have hzl : Z.length + 1 ≤ 2000 := by rw [HLK.out]; omega
      clear hZ hlk
      go_wp2_with (refine list_pushI (by rfl) _ _ (by rfl) w.heap.size hi (.slice a k c) Z [(k : Int)] (by rfl) (HB.out.by blwT) wr.heap.size 1 #[.int .i64 (k : Int)] (by rfl) (by rfl) (by omega) (Blk.new _ rfl) (by rfl) (by omega) (by omega) ?_; intro a5 c5 w5 hB5 hw5; have HB5 := Lib.hid hB5; rw [HLK.out]; clear hB5)
      have hsz := hw5.size
      simp only [World.size_alloc] at hsz
      refine ⟨⟨k + 1, w5.heap.size, by omega, by go_num, Lib.hid ?_, by omega, hw5.below (below_al hb _) (by omega)⟩, by simp [intOf]; omega⟩
      rw [HX.out]
      have := HB5.out
      rw [HLK.out] at this
      exact this
    · obtain rfl : k = m := by omega
      have i1 : ¬ (k : Int) < (k : Int) := by omega
      have hs := HB.out
      have HB2 := Lib.hid (show BldI wr w.heap.size wr.heap.size (.slice a k c) (iota k) from ⟨Nat.le_refl _, hs.2.1, fun g hg => by have := hs.2.2 g hg; omega⟩)
      clear hs HB
      go_wp2
      go_ret
      exact ⟨_, rfl, HB2.out, hb⟩
theorem Only.within {g : Nat} {w w' : World} (h : Only g w w') : Within g (g + 1) w w' := ⟨h.os, h.tape, h.output, Nat.le_of_eq h.size.symm, fun k _ hne => h.block k (by omega)⟩
theorem BldI.only {g : Nat} {w w' : World} {lo hi : Nat} {v : Value} {zs : List Int} (ho : Only g w w') (h : BldI w lo hi v zs) (hg : g < lo) : BldI w' lo hi v zs := BldI.past ho.within h (.inl (by omega))
set_option maxRecDepth 100000 in
set_option maxHeartbeats 2000000 in
theorem l27DrawOrder_any (W0 : World) (g : Nat) (sv : Value) (n : Nat) (m : Nat) (hm : m ≤ 200) (w : World) (hD : Src1 W0 g sv n w) :
    Calls Tryz.prog 122 #[.pointer (some ⟨g, 0, none⟩), .int .i64 (m : Int)] w fun e w' => ∃ v zs, e = .returned v ∧ zs.length = m ∧ BldI w' w.heap.size w'.heap.size v zs ∧ Src1 W0 g sv n w' ∧ Within g (g + 1) w w' := by
  have HN := Lib.hid (fun q w h hq => l01Next_any W0 g sv n q w h hq)
  have HID := Lib.hid (fun w => l27Identity_any m (by omega) w)
  have hgl := hD.lt
  have HD := Lib.hid hD
  clear hD
  go_enter Tryz.func122, Tryz.ntmps122
  go_wp2_with fail
  refine (HID.out _).mono ?_
  rintro e w1 ⟨v1, rfl, hB1, hb1⟩
  obtain ⟨a, c, rfl⟩ := hB1.sized
  rw [length_iota] at hB1 ⊢
  have hs1 := hb1.size
  have HB1 := Lib.hid hB1
  have HD1 := Lib.hid (HD.out.by hb1)
  have HW1 : Hid (Within g (g + 1) w w1) := Lib.hid ⟨hb1.os, hb1.tape, hb1.output, hb1.size, fun k hk _ => hb1.block k hk⟩
  have hwr : IntKind.i64.wrap ((m : Int) - 1) = (m : Int) - 1 := by simp [IntKind.wrap, IntKind.bits, IntKind.signed]; omega
  clear hB1 hb1
  go_wp2
  go_loopw [6] (fun i wr => ∃ (z : Int) (zs : List Int), (-1 ≤ z ∧ z < m) ∧ i = .int .i64 z ∧ Hid (zs.length = m) ∧ Hid (BldI wr w.heap.size wr.heap.size (.slice a m c) zs) ∧ Hid (Src1 W0 g sv n wr) ∧ Hid (Within g (g + 1) w wr)) (fun i _ => (intOf i).toNat)
  case atStart => exact ⟨(m : Int) - 1, iota m, by omega, (by first | rfl | rw [hwr] | go_num), Lib.hid (length_iota m), HB1, HD1, HW1⟩
  case round =>
    clear HB1 HD1 HW1
    obtain ⟨z, zs, hz, rfl, HZL, HB, HDr, HWr⟩ := hrel
    by_cases hlt : 0 < z
    · obtain ⟨q, rfl⟩ : ∃ q : Nat, z = q := ⟨z.toNat, by omega⟩
      have hwq : IntKind.i64.wrap ((q : Int) + 1) = (q : Int) + 1 := by simp [IntKind.wrap, IntKind.bits, IntKind.signed]; omega
      go_wp2_with fail
      refine (HN.out _ _ HDr.out (by first | omega | (rw [hwq]; omega))).mono ?_
      rintro e w2 ⟨y, rfl, hy0, hy1, hD2, ho2⟩
      have hyq : y ≤ (q : Int) := by first | omega | (rw [hwq] at hy1; omega)
      obtain ⟨k, rfl⟩ : ∃ k : Nat, y = k := ⟨y.toNat, by omega⟩
      have hB2 := BldI.only ho2 HB.out hgl
      have hs2 := ho2.size
      have hzl := HZL.out
      obtain ⟨G, cap, cs, hv, hG, hBk, hcell⟩ := hB2.blk (by omega)
      rw [hzl] at hv
      obtain ⟨rfl, rfl⟩ : a = some ⟨G, 0, none⟩ ∧ c = cap := by simpa using hv
      obtain ⟨xq, hxq⟩ : ∃ x, zs[q]? = some x := ⟨zs[q]'(by omega), List.getElem?_eq_getElem _⟩
      obtain ⟨xk, hxk⟩ : ∃ x, zs[k]? = some x := ⟨zs[k]'(by omega), List.getElem?_eq_getElem _⟩
      have cq := hcell q xq hxq
      have ck := hcell k xk hxk
      have fG := hBk.free
      have lG := hBk.lt
      have HB2 := Lib.hid hB2
      have HD2 := Lib.hid hD2
      have HO2 := Lib.hid ho2
      have hge : W0.heap.size ≤ G := by
        have := HD.out.2.1.size
        omega
      have hgG : g ≠ G := by omega
      have i1 : (0 : Int) ≤ (q : Int) := by omega
      have i2 : (q : Int) < (m : Int) := by omega
      have i3 : (0 : Int) ≤ (k : Int) := by omega
      have i4 : (k : Int) < (m : Int) := by omega
      have HZL2 := Lib.hid hzl
      clear hv hcell hBk hB2 hD2 ho2 hxq hxk hzl HZL HB HDr
      have h1 := HB2.out.setAt q xk
      have h2 := h1.setAt k xq
      have hW2 : Within g (g + 1) w w2 := HWr.out.on HO2.out.within
      have hWs : ∀ v1 v2, Within g (g + 1) w ((w2.setCell ⟨G, q, none⟩ v1).setCell ⟨G, k, none⟩ v2) := fun v1 v2 => (hW2.new G q v1 (by omega)).new G k v2 (by omega)
      have HFIN := Lib.hid (show BldI ((w2.setCell ⟨G, q, none⟩ (.int .i64 xk)).setCell ⟨G, k, none⟩ (.int .i64 xq)) w.heap.size ((w2.setCell ⟨G, q, none⟩ (.int .i64 xk)).setCell ⟨G, k, none⟩ (.int .i64 xq)).heap.size (.slice (some ⟨G, 0, none⟩) m c) ((zs.set q xk).set k xq) from ⟨Nat.le_refl _, h2.2.1, fun g' hg' => by have := h2.2.2 g' hg'; simp at this ⊢; omega⟩)
      have HWS := Lib.hid (hWs (.int .i64 xk) (.int .i64 xq))
      have HDF := Lib.hid ((HD2.out.apart (o := q) (v := .int .i64 xk) hgG hge).apart (o := k) (v := .int .i64 xq) hgG hge)
      clear h1 h2 hW2 hWs
      by_cases hqk : q = k
      · subst hqk
        obtain rfl : xq = xk := by rw [cq] at ck; simpa using ck
        go_wp2
        exact ⟨⟨(q : Int) - 1, (zs.set q xq).set q xq, by omega, by go_num, Lib.hid (by simp [HZL2.out]), Lib.hid HFIN.out, Lib.hid HDF.out, Lib.hid HWS.out⟩, by simp [intOf]; omega⟩
      · have hkq : ¬ k = q := fun e => hqk e.symm
        go_wp2
        exact ⟨⟨(q : Int) - 1, (zs.set q xk).set k xq, by omega, by go_num, Lib.hid (by simp [HZL2.out]), Lib.hid HFIN.out, Lib.hid HDF.out, Lib.hid HWS.out⟩, by simp [intOf]; omega⟩
    · have i1 : ¬ (0 : Int) < z := hlt
      go_wp2
      go_ret
      first | exact ⟨_, zs, rfl, HZL.out, HB.out, HDr.out, HWr.out⟩ | exact ⟨_, rfl, zs, HZL.out, HB.out, HDr.out, HWr.out⟩
/- The draw of two orders, and of a matching. -/
theorem Src1.withinO {W0 w w' : World} {g n lo hi : Nat} {sv : Value} (h : Src1 W0 g sv n w) (hw : Within lo hi w w') (h1 : W0.heap.size ≤ lo) (h2 : g < lo ∨ hi ≤ g) : Src1 W0 g sv n w' := by
  have hl := h.lt
  obtain ⟨a1, a2, a3, a4, i, x, a5, a6, a7, a8⟩ := h
  exact ⟨a1, hw.below a2 h1, a3, a4, i, x, a5, a6, a7, (hw.block g hl h2).trans a8⟩
theorem below_new (w : World) (o : Obj) : Below w.heap.size w (w.alloc o) := (Below.refl _ w).alloc (Nat.le_refl _) o
theorem Within.newer {a w w' : World} {lo hi lo' hi' : Nat} (h : Within lo hi a w) (h' : Within lo' hi' w w') (hl : a.heap.size ≤ lo') : Within lo hi a w' :=
  ⟨h'.os.trans h.os, h'.tape.trans h.tape, h'.output.trans h.output, Nat.le_trans h.size h'.size, fun k hk hne => (h'.block k (Nat.lt_of_lt_of_le hk h.size) (.inl (by omega))).trans (h.block k hk hne)⟩
theorem Blk.differ2 {w : World} {g : Nat} {a b : Array Value} {T1 T2 : TypeId} (h1 : Blk w g a T1) (h2 : Blk w g b T2) : T1 = T2 := by
  have h := h1.symm.trans h2
  injection h with h
  injection h
theorem OwnR.offM {w : World} {lo hi T o : Nat} {cs : Array Value} {sv v : Value} {zs : List Int} (h : OwnR w lo hi sv zs) (hT : Blk w T cs 29) : OwnR (w.setCell ⟨T, o, none⟩ v) lo hi sv zs := by
  rcases h with h | ⟨g, cap, c2, h1, h2, h3, h4, h5, h6, h7⟩
  · exact .inl h
  · exact .inr ⟨g, cap, c2, h1, h2, h3, h4, h5, h6.apart T o v (fun e => by subst e; exact absurd (h6.differ2 hT) (by decide)), h7⟩
theorem OwnR.threeM {w : World} {lo hi M R : Nat} {cM cR : Array Value} {sv : Value} {zs : List Int} (h : OwnR w lo hi sv zs) (kM : Blk w M cM 29) (kR : Blk w R cR 29) (o : Nat) (y y0 y1 : Value) :
    OwnR (((w.setCell ⟨M, o, none⟩ y).setCell ⟨R, 0, none⟩ y0).setCell ⟨R, 1, none⟩ y1) lo hi sv zs := by
  have h1 := h.offM (o := o) (v := y) kM
  by_cases e : R = M
  · subst e
    exact (h1.offM (kM.set o y)).offM ((kM.set o y).set 0 y0)
  · exact (h1.offM (kR.apart M o y e)).offM ((kR.apart M o y e).set 0 y0)
def MaO (m : Nat) (w : World) (v : Value) (z : List Int × List Int) : Prop := ∃ s1 s2, v = .agg #[s1, s2] ∧ (∃ lo hi, m ≤ lo ∧ OwnR w lo hi s1 z.1) ∧ ∃ lo hi, m ≤ lo ∧ OwnR w lo hi s2 z.2
theorem MaO.ma {m : Nat} {w : World} {v : Value} {z : List Int × List Int} (h : MaO m w v z) : MaV w v z := by
  obtain ⟨s1, s2, e, ⟨_, _, _, h1⟩, _, _, _, h2⟩ := h
  exact ⟨s1, s2, e, h1.sl, h2.sl⟩
theorem MaO.by {m : Nat} {w w' : World} {v : Value} {z : List Int × List Int} (hb : Below w.heap.size w w') (h : MaO m w v z) : MaO m w' v z := by
  obtain ⟨s1, s2, e, ⟨_, _, a1, h1⟩, _, _, a2, h2⟩ := h
  exact ⟨s1, s2, e, ⟨_, _, a1, h1.by hb⟩, _, _, a2, h2.by hb⟩
theorem MaO.past {m lo hi : Nat} {w w' : World} {v : Value} {z : List Int × List Int} (hb : Within lo hi w w') (h : MaO m w v z) (hm : hi ≤ m) : MaO m w' v z := by
  obtain ⟨s1, s2, e, ⟨_, _, a1, h1⟩, _, _, a2, h2⟩ := h
  exact ⟨s1, s2, e, ⟨_, _, a1, h1.past hb (.inr (by omega))⟩, _, _, a2, h2.past hb (.inr (by omega))⟩
theorem MaO.low {m m' : Nat} {w : World} {v : Value} {z : List Int × List Int} (h : MaO m w v z) (hm : m' ≤ m) : MaO m' w v z := by
  obtain ⟨s1, s2, e, ⟨_, _, a1, h1⟩, _, _, a2, h2⟩ := h
  exact ⟨s1, s2, e, ⟨_, _, by omega, h1⟩, _, _, by omega, h2⟩
theorem MaO.offM {m T o : Nat} {cs : Array Value} {w : World} {v u : Value} {z : List Int × List Int} (h : MaO m w v z) (hT : Blk w T cs 29) : MaO m (w.setCell ⟨T, o, none⟩ u) v z := by
  obtain ⟨s1, s2, e, ⟨_, _, a1, h1⟩, _, _, a2, h2⟩ := h
  exact ⟨s1, s2, e, ⟨_, _, a1, h1.offM hT⟩, _, _, a2, h2.offM hT⟩
set_option maxRecDepth 100000 in
set_option maxHeartbeats 2000000 in
theorem l30DrawOrders_any (W0 : World) (g : Nat) (sv : Value) (n : Nat) (p q : Nat) (hp : p ≤ 100) (hq : q ≤ 100) (w : World) (hD : Src1 W0 g sv n w) :
    Calls Tryz.prog 74 #[.pointer (some ⟨g, 0, none⟩), .int .i64 (p : Int), .int .i64 (q : Int)] w fun e w' => ∃ v, e = .returned v ∧ ∃ z, MaO w.heap.size w' v z ∧ z.1.length ≤ 300 ∧ z.2.length ≤ 300 ∧ Src1 W0 g sv n w' ∧ Within g (g + 1) w w' := by
  have HN := Lib.hid (fun m w h hm => l01Next_any W0 g sv n m w h hm)
  have HO := Lib.hid (fun m hm w h => l27DrawOrder_any W0 g sv n m hm w h)
  have hgl := hD.lt
  have hg0 := hD.1
  have HD0 : Hid (Src1 W0 g sv n (w.alloc (.cells #[.slice none 0 0, .slice none 0 0] 29))) := Lib.hid (hD.by ((Below.refl _ w).alloc (Nat.le_refl _) _))
  have kR0 : Blk (w.alloc (.cells #[.slice none 0 0, .slice none 0 0] 29)) w.heap.size #[.slice none 0 0, .slice none 0 0] 29 := Blk.new _ rfl
  have HW0 : Hid (Within g (g + 1) w (w.alloc (.cells #[.slice none 0 0, .slice none 0 0] 29))) := Lib.hid ((Within.refl _ _ _).alloc _)
  have hs0 : (w.alloc (.cells #[.slice none 0 0, .slice none 0 0] 29)).heap.size = w.heap.size + 1 := by simp
  clear hD
  go_enter Tryz.func74, Tryz.ntmps74
  go_wp2_with fail
  refine (HO.out p (by omega) _ HD0.out).mono ?_
  rintro e w1 ⟨v1, z1, rfl, hl1, hB1, hD1, hW1⟩
  obtain ⟨a1, c1, rfl⟩ := hB1.sized
  rw [hl1] at hB1 ⊢
  have HB1 := Lib.hid hB1
  have HD1 := Lib.hid hD1
  have HL1 := Lib.hid hl1
  have hs1 := hW1.size
  have kR1 := hW1.blk kR0 (by omega)
  have HW1 := Lib.hid (HW0.out.on hW1)
  clear hB1 hD1 hl1 hW1 kR0 HW0 HD0
  go_wp2_with fail
  refine (HO.out q (by omega) _ HD1.out).mono ?_
  rintro e w2 ⟨v2, z2, rfl, hl2, hB2, hD2, hW2⟩
  obtain ⟨a2, c2, rfl⟩ := hB2.sized
  rw [hl2] at hB2 ⊢
  have HB2 := Lib.hid hB2
  have HL2 := Lib.hid hl2
  have hs2 := hW2.size
  have kR2 := hW2.blk kR1 (by omega)
  have HB1' := Lib.hid (HB1.out.past hW2 (.inl (by omega)))
  have HW2 := Lib.hid (HW1.out.on hW2)
  have HD2 := Lib.hid hD2
  clear hB2 hD2 hl2 hW2 kR1 HW1 HD1 HB1
  obtain ⟨M, hM⟩ : ∃ M, w2.heap.size = M := ⟨_, rfl⟩
  obtain ⟨w3, hw3⟩ : ∃ z, z = w2.alloc (.cells #[.slice a1 p c1, .slice a2 q c2] 29) := ⟨_, rfl⟩
  have hal : Below w2.heap.size w2 w3 := by rw [hw3]; exact (Below.refl _ w2).alloc (Nat.le_refl _) _
  have kM3 : Blk w3 M #[.slice a1 p c1, .slice a2 q c2] 29 := by rw [hw3]; exact Blk.new _ hM.symm
  have hs3 : w3.heap.size = M + 1 := by rw [hw3]; simp [hM]
  have kR3 := Blk.by hal kR2
  have HD3 := Lib.hid (HD2.out.by hal)
  have HB13 := Lib.hid (HB1'.out.by hal)
  have HB23 := Lib.hid (HB2.out.by hal)
  have HW3 : Hid (Within g (g + 1) w w3) := Lib.hid (HW2.out.on ⟨hal.os, hal.tape, hal.output, hal.size, fun k hk _ => hal.block k hk⟩)
  simp only [hs0] at HB13
  go_wp2_with fail
  (try rw [← hw3])
  (try rw [hM])
  clear hw3 hal kR2 HD2 HB1' HB2 HW2
  refine (HN.out 20 _ HD3.out (by omega)).mono ?_
  rintro e w4 ⟨y, rfl, hy0, hy1, hD4, ho4⟩
  have hs4 := ho4.size
  have kM4 : Blk w4 M _ 29 := ho4.blk kM3 (by omega)
  have kR4 : Blk w4 w.heap.size _ 29 := ho4.blk kR3 (by omega)
  have HB14 := Lib.hid (HB13.out.only ho4 (by omega))
  have HB24 := Lib.hid (HB23.out.only ho4 (by omega))
  have HW4 := Lib.hid (HW3.out.on ho4.within)
  have HD4 := Lib.hid hD4
  clear hD4 ho4 kM3 kR3 HB13 HB23 HW3 HD3
  have qM := kM4.cell
  have fM := kM4.free
  have lM := kM4.lt
  have qR := kR4.cell
  have fR := kR4.free
  have lR := kR4.lt
  have hge0 : W0.heap.size ≤ w.heap.size := by omega
  have hll1 := HL1.out
  have hll2 := HL2.out
  have HLL := Lib.hid (And.intro hll1 hll2)
  clear hll1 hll2
  by_cases y0 : y = 0
  · have e0 : (y == 0) = true := by simpa using y0
    clear y0
    go_upto_region 4 with fail
    have hS : (fun w' : World => w'.cell? ⟨M, 0, none⟩ = some (.slice a1 p c1)) { w4 with drawn := w4.drawn + 1 } := qM 0
    refine wp_region_any (by kernel_rfl) (wpAny_of_E (S := fun w' => w'.cell? ⟨M, 0, none⟩ = some (.slice a1 p c1)) (l := 7) _ _ _ _ ?_)
    change wpAnyE _ _ _ _ _ _ _ _ _ w4.drew
    refine wpAnyE_take (i := 0) (v := ?_) rfl (by kernel_rfl) (fun _ _ _ h => h) (Or.inl ⟨by rfl, ?_⟩) hS ?_
    rotate_left
    · intro w hSw; (try dsimp only at hSw); go_simp; (try with_reducible rfl)
    try simp only [Act.put, List.setIfInBounds_toArray, List.set_cons_zero, List.set_cons_succ]
    refine wpAnyE_take (i := 1) (v := ?_) rfl (by kernel_rfl) (fun _ _ _ h => h) (Or.inl ⟨by rfl, ?_⟩) hS ?_
    rotate_left
    · intro w hSw; (try dsimp only at hSw); go_simp; (try with_reducible rfl)
    try simp only [Act.put, List.setIfInBounds_toArray, List.set_cons_zero, List.set_cons_succ]
    refine wpAnyE_take (i := 2) (v := ?_) rfl (by kernel_rfl) (fun _ _ _ h => h) (Or.inl ⟨by rfl, ?_⟩) hS ?_
    rotate_left
    · intro w hSw; (try dsimp only at hSw); go_simp; (try with_reducible rfl)
    try simp only [Act.put, List.setIfInBounds_toArray, List.set_cons_zero, List.set_cons_succ]
    refine wpAnyE_one (k := 3) (by kernel_rfl) rfl (fun K hK => ?_)
    go_simp
    go_at_call 73
    refine (HN.out 3 _ (HD4.out.by (Below.refl _ w4).drew) (by omega)).mono ?_
    rintro e w5 ⟨x, rfl, hx0, hx1, hD5, ho5⟩
    have hs5 := ho5.size
    simp only [World.size_drew] at hs5
    have kM5 : Blk w5 M _ 29 := ho5.blk (kM4.drew) (by omega)
    have kR5 : Blk w5 w.heap.size _ 29 := ho5.blk (kR4.drew) (by omega)
    have HB15 := Lib.hid ((HB14.out.by (Below.refl _ w4).drew).only ho5 (by omega))
    have HB25 := Lib.hid ((HB24.out.by (Below.refl _ w4).drew).only ho5 (by omega))
    have HD5 := Lib.hid hD5
    have HW5 : Hid (Within g (g + 1) w w5) := Lib.hid ((HW4.out.drewN 1).on ho5.within)
    have qM5 := kM5.cell
    clear hD5 ho5
    go_simp
    refine hK.out _ _ (fun _ => qM5 0) ?_
    try simp only [Act.put, List.setIfInBounds_toArray, List.set_cons_zero, List.set_cons_succ]
    refine wpAnyE_one (k := 4) (by kernel_rfl) rfl (fun K hK => ?_)
    go_simp
    have hal : Below w5.heap.size w5 (w5.alloc (.cells #[.int .i64 x] 2)) := (Below.refl _ w5).alloc (Nat.le_refl _) _
    refine hK.out _ _ (fun _ => cell_by' hal (qM5 0)) ?_
    try simp only [Act.put, List.setIfInBounds_toArray, List.set_cons_zero, List.set_cons_succ]
    refine wpAnyE_one (k := 5) (by kernel_rfl) rfl (fun K hK => ?_)
    obtain ⟨hla, hlb⟩ := HLL.out
    refine step_pushI (by rfl) _ _ (by rfl) _ _ (.slice a1 p c1) z1 [x] (by rfl) (HB15.out.by hal) _ 1 #[.int .i64 x] (by rfl) rfl (by omega) (Blk.new _ (by omega)) rfl (by omega) (by omega) ?_
    intro a6 c6 w6 hB6 hw6
    rw [hla] at hB6 ⊢
    have hs6 := hw6.size
    simp only [World.size_alloc] at hs6
    have kM6 : Blk w6 M _ 29 := hw6.blk (kM5.past _) (by omega)
    have kR6 : Blk w6 w.heap.size _ 29 := hw6.blk (kR5.past _) (by omega)
    have HB6 := Lib.hid hB6
    have HB26 := Lib.hid ((HB25.out.by hal).past hw6 (.inl (by omega)))
    have HD6 := Lib.hid ((HD5.out.by hal).withinO hw6 (by omega) (.inl (by omega)))
    have HW6 : Hid (Within g (g + 1) w w6) := Lib.hid ((HW5.out.alloc _).newer hw6 (by omega))
    have qM6 := kM6.cell
    have fM6 := kM6.free
    have lM6 := kM6.lt
    have fR6 := kR6.free
    have lR6 := kR6.lt
    have qR6 := kR6.cell
    clear hB6 hw6 hal
    refine hK.out _ _ (fun _ => qM6 0) ?_
    try simp only [Act.put, List.setIfInBounds_toArray, List.set_cons_zero, List.set_cons_succ]
    refine wpAnyE_one (k := 6) (by kernel_rfl) rfl (fun K hK => ?_)
    go_simp
    refine hK.out _ _ (fun _ => qM6 0) ?_
    try simp only [Act.put, List.setIfInBounds_toArray, List.set_cons_zero, List.set_cons_succ]
    refine wpAnyE_one (k := 7) (by kernel_rfl) rfl (fun K hK => ?_)
    go_simp
    refine hK.out _ _ (fun h => absurd rfl h) ?_
    refine wpAnyE_done (by kernel_rfl) ?_ _
    clear hS
    have hMR : ¬ M = w.heap.size := by omega
    have hRM : ¬ w.heap.size = M := by omega
    go_wp2
    refine bodyPost_ret (v := .agg #[.slice a6 (p + 1) c6, .slice a2 q c2]) (by simp [results, Tryz.results74, go_sem, *]) rfl ⟨_, rfl, (z1 ++ [x], z2), ⟨_, _, rfl, ?_, ?_⟩, ?_, ?_, ?_, ?_⟩
    · exact ⟨_, _, by omega, OwnR.threeM (HB6.out).own kM6 kR6 _ _ _ _⟩
    · exact ⟨_, _, by omega, OwnR.threeM (HB26.out).own kM6 kR6 _ _ _ _⟩
    · simp; omega
    · simp; omega
    · exact (((HD6.out).apart (by omega) (by omega)).apart (by omega) (by omega)).apart (by omega) (by omega)
    · exact (((HW6.out).newer (Within.off _) (by omega)).newer (Within.off _) (by omega)).newer (Within.off _) (by omega)
  · have e0 : (y == 0) = false := by simpa using y0
    by_cases y1 : y = 1
    · have e1 : (y == 1) = true := by simpa using y1
      clear y0 y1
      have hMR : ¬ M = w.heap.size := by omega
      have hRM : ¬ w.heap.size = M := by omega
      obtain ⟨hla, hlb⟩ := HLL.out
      go_wp2_with (refine list_pushI (by rfl) _ _ (by rfl) _ _ (.slice a2 q c2) z2 [-1] (by rfl) (HB24.out.by blwT) _ 1 #[.int .i64 (-1)] (by rfl) (by rfl) (by omega) (Blk.new _ (by omega)) (by rfl) (by omega) (by omega) ?_; intro a6 c6 w6 hB6 hw6; rw [hlb] at hB6 ⊢; have hs6 := hw6.size; simp only [World.size_alloc] at hs6; have kM6 : Blk w6 M _ 29 := hw6.blk (kM4.past _) (by omega); have kR6 : Blk w6 w.heap.size _ 29 := hw6.blk (kR4.past _) (by omega); have HB6 := Lib.hid hB6; have HB16 := Lib.hid ((HB14.out.by (below_new w4 _)).past hw6 (.inr (by omega))); have HD6 := Lib.hid ((HD4.out.by (below_new w4 _)).withinO hw6 (by omega) (.inl (by omega))); have HW6 : Hid (Within g (g + 1) w w6) := Lib.hid ((HW4.out.alloc _).newer hw6 (by omega)); have qM6 := kM6.cell; have fM6 := kM6.free; have lM6 := kM6.lt; have fR6 := kR6.free; have lR6 := kR6.lt; have qR6 := kR6.cell; clear hB6 hw6)
      refine bodyPost_ret (v := .agg #[.slice a1 p c1, .slice a6 (q + 1) c6]) (by simp [results, Tryz.results74, go_sem, *]) rfl ⟨_, rfl, (z1, z2 ++ [-1]), ⟨_, _, rfl, ?_, ?_⟩, ?_, ?_, ?_, ?_⟩
      · exact ⟨_, _, by omega, OwnR.threeM (HB16.out).own kM6 kR6 _ _ _ _⟩
      · exact ⟨_, _, by omega, OwnR.threeM (HB6.out).own kM6 kR6 _ _ _ _⟩
      · simp; omega
      · simp; omega
      · exact (((HD6.out).apart (by omega) (by omega)).apart (by omega) (by omega)).apart (by omega) (by omega)
      · exact (((HW6.out).newer (Within.off _) (by omega)).newer (Within.off _) (by omega)).newer (Within.off _) (by omega)
    · have e1 : (y == 1) = false := by simpa using y1
      by_cases y2 : y = 2
      · have e2 : (y == 2) = true := by simpa using y2
        clear y0 y1 y2
        have hMR : ¬ M = w.heap.size := by omega
        have hRM : ¬ w.heap.size = M := by omega
        obtain ⟨hla, hlb⟩ := HLL.out
        go_wp2_with fail
        refine (HN.out 2 _ HD4.out (by omega)).mono ?_
        rintro e w5 ⟨x, rfl, hx0, hx1, hD5, ho5⟩
        obtain ⟨k, rfl⟩ : ∃ k : Nat, x = k := ⟨x.toNat, by omega⟩
        have hs5 := ho5.size
        have kM5 : Blk w5 M _ 29 := ho5.blk kM4 (by omega)
        have kR5 : Blk w5 w.heap.size _ 29 := ho5.blk kR4 (by omega)
        have HB25 := Lib.hid (HB24.out.only ho5 (by omega))
        have HD5 := Lib.hid hD5
        have HW5 : Hid (Within g (g + 1) w w5) := Lib.hid (HW4.out.on ho5.within)
        have hwk : IntKind.i64.wrap (24 + (k : Int)) = ((24 + k : Nat) : Int) := by simp [IntKind.wrap, IntKind.bits, IntKind.signed]; omega
        clear hD5 ho5
        go_wp2_with fail
        (try rw [hwk])
        (try rw [show (24 : Int) + (k : Int) = ((24 + k : Nat) : Int) by omega])
        refine (HO.out (24 + k) (by omega) _ HD5.out).mono ?_
        rintro e w6 ⟨v6, z6, rfl, hl6, hB6, hD6, hW6⟩
        obtain ⟨a6, c6, rfl⟩ := hB6.sized
        have hs6 := hW6.size
        have kM6 : Blk w6 M _ 29 := hW6.blk kM5 (by omega)
        have kR6 : Blk w6 w.heap.size _ 29 := hW6.blk kR5 (by omega)
        have HB6 := Lib.hid hB6
        have HB26 := Lib.hid (HB25.out.past hW6 (.inl (by omega)))
        have HD6 := Lib.hid hD6
        have HW6 : Hid (Within g (g + 1) w w6) := Lib.hid (HW5.out.on hW6)
        have HL6 := Lib.hid hl6
        have qM6 := kM6.cell
        have fM6 := kM6.free
        have lM6 := kM6.lt
        have fR6 := kR6.free
        have lR6 := kR6.lt
        have qR6 := kR6.cell
        clear hB6 hD6 hW6 hl6
        go_wp2
        have hl6 := HL6.out
        refine bodyPost_ret (v := .agg #[.slice a6 z6.length c6, .slice a2 q c2]) (by simp [results, Tryz.results74, go_sem, *]) rfl ⟨_, rfl, (z6, z2), ⟨_, _, rfl, ?_, ?_⟩, ?_, ?_, ?_, ?_⟩
        · exact ⟨_, _, by omega, OwnR.threeM (HB6.out).own kM6 kR6 _ _ _ _⟩
        · exact ⟨_, _, by omega, OwnR.threeM (HB26.out).own kM6 kR6 _ _ _ _⟩
        · simp; omega
        · simp; omega
        · exact (((HD6.out).apart (by omega) (by omega)).apart (by omega) (by omega)).apart (by omega) (by omega)
        · exact (((HW6.out).newer (Within.off _) (by omega)).newer (Within.off _) (by omega)).newer (Within.off _) (by omega)
      · have e2 : (y == 2) = false := by simpa using y2
        clear y0 y1 y2
        obtain ⟨hla, hlb⟩ := HLL.out
        go_wp2
        refine bodyPost_ret (v := .agg #[.slice a1 p c1, .slice a2 q c2]) (by simp [results, Tryz.results74, go_sem, *]) rfl ⟨_, rfl, (z1, z2), ⟨_, _, rfl, ?_, ?_⟩, ?_, ?_, ?_, ?_⟩
        · exact ⟨_, _, by omega, (BldI.past (Within.off _) (BldI.past (Within.off _) (HB14.out) (by omega)) (by omega)).own⟩
        · exact ⟨_, _, by omega, (BldI.past (Within.off _) (BldI.past (Within.off _) (HB24.out) (by omega)) (by omega)).own⟩
        · simp; omega
        · simp; omega
        · exact ((HD4.out).apart (by omega) (by omega)).apart (by omega) (by omega)
        · exact ((HW4.out).newer (Within.off _) (by omega)).newer (Within.off _) (by omega)
/- The draw of a matching for a netlist. -/
theorem OwnR.wideM {w : World} {lo hi lo' hi' : Nat} {v : Value} {zs : List Int} (h : OwnR w lo hi v zs) (h1 : lo' ≤ lo) (h2 : hi ≤ hi') : OwnR w lo' hi' v zs := by
  rcases h with h | ⟨g, cap, cs, e1, e2, e3, e4⟩
  · exact .inl h
  · exact .inr ⟨g, cap, cs, e1, by omega, by omega, e4⟩
set_option maxRecDepth 100000 in
set_option maxHeartbeats 8000000 in
theorem l30DrawMatching_any (W0 : World) (g : Nat) (sv : Value) (n : Nat) (nets : Int) (a1 a2 : Option Addr) (L L2 c1 c2 : Nat) (hn0 : -1000 ≤ nets) (hn1 : nets ≤ 200) (hL : L ≤ 200) (w : World) (hD : Src1 W0 g sv n w) :
    Calls Tryz.prog 72 #[.pointer (some ⟨g, 0, none⟩), .agg #[.int .i64 nets, .slice a1 L c1, .slice a2 L2 c2]] w fun e w' => ∃ v1 v2 z1 z2, e = .returned (.agg #[v1, v2]) ∧ z1.length ≤ 200 ∧ z2.length ≤ 200 ∧ OwnR w' w.heap.size w'.heap.size v1 z1 ∧ OwnR w' w.heap.size w'.heap.size v2 z2 ∧ Src1 W0 g sv n w' ∧ Within g (g + 1) w w' := by
  have HO := Lib.hid (fun m hm w h => l27DrawOrder_any W0 g sv n m hm w h)
  have hgl := hD.lt
  obtain ⟨m, hm⟩ : ∃ m : Nat, m = nets.toNat := ⟨_, rfl⟩
  have hm2 : m ≤ 200 := by omega
  have kB : Blk ((w.alloc (.cells #[.int .i64 nets, .slice a1 L c1, .slice a2 L2 c2] 35)).alloc (.cells #[.slice none 0 0, .slice none 0 0] 29)) w.heap.size #[.int .i64 nets, .slice a1 L c1, .slice a2 L2 c2] 35 := (Blk.new _ rfl).past _
  have kR : Blk ((w.alloc (.cells #[.int .i64 nets, .slice a1 L c1, .slice a2 L2 c2] 35)).alloc (.cells #[.slice none 0 0, .slice none 0 0] 29)) (w.heap.size + 1) #[.slice none 0 0, .slice none 0 0] 29 := Blk.new _ (by simp)
  have hW0 : Within g (g + 1) w ((w.alloc (.cells #[.int .i64 nets, .slice a1 L c1, .slice a2 L2 c2] 35)).alloc (.cells #[.slice none 0 0, .slice none 0 0] 29)) := ((Within.refl _ _ _).alloc _).alloc _
  have HD0 := Lib.hid ((hD.by ((Below.refl _ _).alloc (Nat.le_refl _) (.cells #[.int .i64 nets, .slice a1 L c1, .slice a2 L2 c2] 35))).by ((Below.refl _ _).alloc (Nat.le_refl _) (.cells #[.slice none 0 0, .slice none 0 0] 29)))
  have hs0 : ((w.alloc (.cells #[.int .i64 nets, .slice a1 L c1, .slice a2 L2 c2] 35)).alloc (.cells #[.slice none 0 0, .slice none 0 0] 29)).heap.size = w.heap.size + 2 := by simp
  have HM := Lib.hid hm
  have hg0 : W0.heap.size ≤ g := hD.1
  clear hD
  go_enter Tryz.func72, Tryz.ntmps72
  go_upto_region 1 with fail
  generalize (w.alloc (.cells #[.int .i64 nets, .slice a1 L c1, .slice a2 L2 c2] 35)).alloc (.cells #[.slice none 0 0, .slice none 0 0] 29) = wA at *
  have hsA : w.heap.size + 2 ≤ wA.heap.size := by omega
  clear hs0 hm
  have hS : (fun w' : World => Blk w' w.heap.size #[.int .i64 nets, .slice a1 L c1, .slice a2 L2 c2] 35) { wA with drawn := wA.drawn + 1 } := kB.drew
  refine wp_region_any (by kernel_rfl) (wpAny_of_E (S := fun w' : World => Blk w' w.heap.size #[.int .i64 nets, .slice a1 L c1, .slice a2 L2 c2] 35) (l := 11) _ _ _ _ ?_)
  change wpAnyE _ _ _ _ _ _ _ _ _ wA.drew
  refine wpAnyE_takeL (i := 0) (v := ?_) rfl (by kernel_rfl) (fun _ _ _ h => h) (Or.inl ⟨by rfl, ?_⟩) hS ?_
  rotate_left
  · intro w hSw; (try dsimp only at hSw); have hc0 := hSw.cell 0; have hc1 := hSw.cell 1; have hl := hSw.lt; clear hSw; go_simp; (try with_reducible rfl)
  try simp only [Act.put, List.setIfInBounds_toArray, List.set_cons_zero, List.set_cons_succ]
  refine wpAnyE_takeL (i := 1) (v := ?_) rfl (by kernel_rfl) (fun _ _ _ h => h) (Or.inl ⟨by rfl, ?_⟩) hS ?_
  rotate_left
  · intro w hSw; (try dsimp only at hSw); have hc0 := hSw.cell 0; have hc1 := hSw.cell 1; have hl := hSw.lt; clear hSw; go_simp; (try with_reducible rfl)
  try simp only [Act.put, List.setIfInBounds_toArray, List.set_cons_zero, List.set_cons_succ]
  refine wpAnyE_takeL (i := 2) (v := ?_) rfl (by kernel_rfl) (fun _ _ _ h => h) (Or.inl ⟨by rfl, ?_⟩) hS ?_
  rotate_left
  · intro w hSw; (try dsimp only at hSw); have hc0 := hSw.cell 0; have hc1 := hSw.cell 1; have hl := hSw.lt; clear hSw; go_simp; (try with_reducible rfl)
  try simp only [Act.put, List.setIfInBounds_toArray, List.set_cons_zero, List.set_cons_succ]
  refine wpAnyE_takeL (i := 3) (v := .int .i64 (m : Int)) rfl (by kernel_rfl) (fun _ _ _ h => h) (Or.inl ⟨by rfl, ?_⟩) hS ?_
  · intro w hSw
    have hm := HM.out
    have hmm : (m : Int) = max 0 nets := by omega
    go_simp
    split <;> omega
  try simp only [Act.put, List.setIfInBounds_toArray, List.set_cons_zero, List.set_cons_succ]
  refine wpAnyE_takeL (i := 5) (v := ?_) rfl (by kernel_rfl) (fun _ _ _ h => h) (Or.inl ⟨by rfl, ?_⟩) hS ?_
  rotate_left
  · intro w hSw; (try dsimp only at hSw); have hc0 := hSw.cell 0; have hc1 := hSw.cell 1; have hl := hSw.lt; clear hSw; go_simp; (try with_reducible rfl)
  try simp only [Act.put, List.setIfInBounds_toArray, List.set_cons_zero, List.set_cons_succ]
  refine wpAnyE_takeL (i := 6) (v := ?_) rfl (by kernel_rfl) (fun _ _ _ h => h) (Or.inl ⟨by rfl, ?_⟩) hS ?_
  rotate_left
  · intro w hSw; (try dsimp only at hSw); have hc0 := hSw.cell 0; have hc1 := hSw.cell 1; have hl := hSw.lt; clear hSw; go_simp; (try with_reducible rfl)
  try simp only [Act.put, List.setIfInBounds_toArray, List.set_cons_zero, List.set_cons_succ]
  refine wpAnyE_takeL (i := 7) (v := ?_) rfl (by kernel_rfl) (fun _ _ _ h => h) (Or.inl ⟨by rfl, ?_⟩) hS ?_
  rotate_left
  · intro w hSw; (try dsimp only at hSw); have hc0 := hSw.cell 0; have hc1 := hSw.cell 1; have hl := hSw.lt; clear hSw; go_simp; (try with_reducible rfl)
  try simp only [Act.put, List.setIfInBounds_toArray, List.set_cons_zero, List.set_cons_succ]
  refine wpAnyE_takeL (i := 8) (v := ?_) rfl (by kernel_rfl) (fun _ _ _ h => h) (Or.inl ⟨by rfl, ?_⟩) hS ?_
  rotate_left
  · intro w hSw; (try dsimp only at hSw); have hc0 := hSw.cell 0; have hc1 := hSw.cell 1; have hl := hSw.lt; clear hSw; go_simp; (try with_reducible rfl)
  try simp only [Act.put, List.setIfInBounds_toArray, List.set_cons_zero, List.set_cons_succ]
  refine wpAnyE_oneL (k := 4) (by kernel_rfl) rfl (fun K hK => ?_)
  go_simp
  go_at_call 122
  refine (HO.out m hm2 _ (HD0.out.by (below_of_drewN wA 1))).mono ?_
  rintro e w1 ⟨v1, z1, rfl, hl1, hB1, hD1, hW1⟩
  obtain ⟨b1, d1, rfl⟩ := hB1.sized
  have kB1 : Blk w1 w.heap.size _ 35 := hW1.blk kB.drew (by omega)
  have kR1 : Blk w1 (w.heap.size + 1) _ 29 := hW1.blk kR.drew (by omega)
  have HB1 := Lib.hid (show BldI w1 wA.heap.size w1.heap.size _ _ from hB1)
  have HD1 := Lib.hid hD1
  have HW1 := Lib.hid ((hW0.drewN 1).on hW1)
  have HL1 := Lib.hid hl1
  have hs1 : wA.heap.size ≤ w1.heap.size := hW1.size
  clear hB1 hD1 hl1 hW1 kB kR HD0 hW0
  refine hK.out _ _ (fun _ => kB1) ?_
  try simp only [Act.put, List.setIfInBounds_toArray, List.set_cons_zero, List.set_cons_succ]
  refine wpAnyE_oneL (k := 9) (by kernel_rfl) rfl (fun K hK => ?_)
  go_simp
  go_at_call 122
  refine (HO.out L hL _ HD1.out).mono ?_
  rintro e w2 ⟨v2, z2, rfl, hl2, hB2, hD2, hW2⟩
  obtain ⟨b2, d2, rfl⟩ := hB2.sized
  have kB2 : Blk w2 w.heap.size _ 35 := hW2.blk kB1 (by omega)
  have kR2 : Blk w2 (w.heap.size + 1) _ 29 := hW2.blk kR1 (by omega)
  have HO1 := Lib.hid (HB1.out.past hW2 (.inl (by omega))).own
  have HO2 := Lib.hid hB2.own
  have HD2 := Lib.hid hD2
  have HW2 := Lib.hid (HW1.out.on hW2)
  have HL2 := Lib.hid hl2
  have hs2 := hW2.size
  clear hB2 hD2 hl2 hW2 kB1 kR1 HB1 HD1 HW1 hS
  refine hK.out _ _ (fun _ => kB2) ?_
  try simp only [Act.put, List.setIfInBounds_toArray, List.set_cons_zero, List.set_cons_succ]
  refine wpAnyE_oneL (k := 10) (by kernel_rfl) rfl (fun K hK => ?_)
  go_simp
  refine hK.out _ _ (fun _ => kB2) ?_
  try simp only [Act.put, List.setIfInBounds_toArray, List.set_cons_zero, List.set_cons_succ]
  have qR := kR2.cell
  have fR := kR2.free
  have lR := kR2.lt
  refine wpAnyE_oneL (k := 11) (by kernel_rfl) rfl (fun K hK => ?_)
  go_simp
  refine hK.out _ _ (fun h => absurd rfl h) ?_
  refine wpAnyE_done (by kernel_rfl) ?_ _
  go_wp2
  have hfin : ∀ (y0 y1 : Value), ((w2.setCell ⟨w.heap.size + 1, 0, none⟩ y0).setCell ⟨w.heap.size + 1, 1, none⟩ y1).heap.size = w2.heap.size := fun _ _ => by simp
  refine bodyPost_ret (v := .agg #[.slice b1 z1.length d1, .slice b2 z2.length d2]) (by simp [results, Tryz.results72, go_sem, *]) rfl ⟨_, _, z1, z2, rfl, by have := HL1.out; omega, by have := HL2.out; omega, ?_, ?_, ?_, ?_⟩
  · exact OwnR.wideM ((HO1.out.offM kR2).offM (kR2.set _ _)) (by omega) (by rw [hfin]; omega)
  · exact OwnR.wideM ((HO2.out.offM kR2).offM (kR2.set _ _)) (by omega) (by rw [hfin]; omega)
  · exact (HD2.out.apart (by omega) (by omega)).apart (by omega) (by omega)
  · exact (HW2.out.new _ _ _ (by omega)).new _ _ _ (by omega)
end Go.Proofs.YtifbffianbgeaaaGreat
