/- The program's IsValidNetlist. -/
import Derived.Test.YtglddnkpccgchaaDoorValid1
import Derived.Test.YtglddnkpccgchaaDoorValid0
import Derived.Test.YtglddnkpccgchaaDoorFidxs
import Derived.WalkLawsBesides
namespace Go.Proofs.YtglddnkpccgchaaDoor
open Go.RowKit
set_option linter.unusedVariables false
set_option linter.unusedSimpArgs false

theorem lt_of_cell {w : World} {p : Addr} {v : Value} (h : w.cell? p = some v) : p.block < w.heap.size := by
  rcases Nat.lt_or_ge p.block w.heap.size with h' | h'
  · exact h'
  · simp [World.cell?, Array.getElem?_eq_none h'] at h

set_option maxRecDepth 100000 in
set_option maxHeartbeats 1000000 in
theorem vnClosure_any (x : Dv) (sv : Value) (nets : Int) (B : Nat) (W : World) (hc : W.cell? ⟨B, 0, none⟩ = some (.int .i64 nets)) (hS : IntSl W sv x.pins) (hn : 0 ≤ nets) (hn' : nets ≤ 24) :
    Calls Tryd.prog 50 #[.agg #[.int .i64 x.kind, sv, .int .i64 x.wd, .int .i64 x.len], .pointer (some ⟨B, 0, none⟩)] W fun e w' => e = .returned (.bool (!dvB nets x)) ∧ Below W.heap.size W w' := by
  have HT := Lib.hid (fun w h => validDevice_any x sv nets w h hn hn')
  have hB := lt_of_cell hc
  dsimp only at hB
  obtain ⟨a, c, rfl⟩ := hS.len
  generalize dvB nets x = r at *
  go_enter Tryd.func50, Tryd.ntmps50
  go_wp2_with fail
  refine (HT.out _ (hS.by (by ((repeat (first | (with_reducible exact Below.refl _ _) | (with_reducible refine below_drewN ?_ _) | (with_reducible refine Below.drew ?_) | (with_reducible refine below_al ?_ _) | (with_reducible refine below_on (by assumption) ?_) | ((with_reducible refine Below.setCell ?_ ?_ _); rotate_left; focus (first | omega | (simp; done) | (simp; omega))) | (with_reducible assumption))); done)))).mono ?_
  rintro e w1 ⟨rfl, hb1⟩
  go_wp2
  go_ret
  exact ⟨rfl, (by ((repeat (first | (with_reducible exact Below.refl _ _) | (with_reducible refine below_drewN ?_ _) | (with_reducible refine Below.drew ?_) | (with_reducible refine below_al ?_ _) | (with_reducible refine below_on (by assumption) ?_) | ((with_reducible refine Below.setCell ?_ ?_ _); rotate_left; focus (first | omega | (simp; done) | (simp; omega))) | (with_reducible assumption))); done))⟩

theorem dvs_any (nets : Int) (ds : List Dv) : (ds.any fun d => !dvB nets d) = !(ds.all (dvB nets)) := by
  induction ds with
  | nil => rfl
  | cons x xs ih => simp [ih]

set_option maxRecDepth 100000 in
set_option maxHeartbeats 4000000 in
theorem implNl_any (x : Nl) (v : Value) (w : World) (h : NlV w v x) (hok : ∀ p ∈ x.ps, p.ok) (hnn : Fits x.nets) :
    Calls Tryd.prog 18 #[v] w fun e w' => e = .returned (.bool (nlB x)) ∧ Below w.heap.size w w' := by
  obtain ⟨s1, s2, rfl, hd, hp⟩ := h
  have HNn := Lib.hid (@nlB_nets x)
  have HND := Lib.hid (@nlB_ds x)
  have HNP := Lib.hid (@nlB_ps x)
  have HPT := Lib.hid (fun i => @nlB_pt i x)
  have HEN := Lib.hid (@nlB_pts x)
  obtain ⟨nets, ds, ps⟩ := x
  dsimp only at hd hp hok hnn HNn HND HNP HPT HEN ⊢
  generalize nlB ⟨nets, ds, ps⟩ = r at *
  have hdl : ds.length ≤ maxLen := by
    rcases hd with ⟨_, _, _, h2⟩ | ⟨b, off, cap, h1, h2, h3, _⟩
    · subst h2; simp
    · exact Nat.le_trans h2 h3
  have hpl : ps.length ≤ maxLen := by
    rcases hp with ⟨_, _, _, h2⟩ | ⟨b, off, cap, h1, h2, h3, _⟩
    · subst h2; simp
    · exact Nat.le_trans h2 h3
  unfold maxLen at hdl hpl
  have HD := Lib.hid hd
  have HP := Lib.hid hp
  have hmf : ∀ (fn : Fn) (first cap : Array Value) (w : World), (Instr.makeFunc fn first cap).run Tryd.prog w = .ok (.func fn first cap) w := fun _ _ _ _ => rfl
  obtain ⟨a1, c1, rfl⟩ := hd.sized
  obtain ⟨a2, c2, rfl⟩ := hp.sized
  clear hd hp
  rcases Bool.eq_false_or_eq_true (inB nets 0 24) with hn | hn
  · have hn' := inB_iff.1 hn
    have HN1 := Lib.hid hn
    by_cases h24 : ds.length ≤ 24
    · by_cases h8 : ps.length ≤ 8
      · have HK := Lib.hid hok
        clear hok
        go_enter Tryd.func18, Tryd.ntmps18
        go_wp2_with (go_at_call 47; refine (within_any _ _ _ _).mono ?_; rintro e w' ⟨rfl, rfl⟩)
        go_loopw [24] (fun i wr => ∃ k : Nat, k ≤ ps.length ∧ i = .int .i64 k ∧ Hid (∀ (j : Nat), j < k → ptOk nets ps j = true) ∧ Blk wr w.heap.size #[.int .i64 nets, .slice a1 ds.length c1, .slice a2 ps.length c2] 31 ∧ Below w.heap.size w wr) (fun i _ => ps.length - (intOf i).toNat)
        case atStart => exact ⟨0, Nat.zero_le _, rfl, Lib.hid (by intro j hj; omega), (by ((repeat (first | (with_reducible assumption) | (with_reducible refine Blk.drewN ?_ _) | (with_reducible refine Blk.drew ?_) | ((with_reducible refine Blk.new _ ?_); focus (first | omega | (simp; done) | (simp; omega))) | (with_reducible refine Blk.past ?_ _) | ((with_reducible refine Blk.apart ?_ _ _ _ ?_); rotate_left; focus (first | omega | (simp; done) | (simp; omega))) | (with_reducible refine Blk.by (by assumption) ?_))); done)), (by ((repeat (first | (with_reducible exact Below.refl _ _) | (with_reducible refine below_drewN ?_ _) | (with_reducible refine Below.drew ?_) | (with_reducible refine below_al ?_ _) | (with_reducible refine below_on (by assumption) ?_) | ((with_reducible refine Below.setCell ?_ ?_ _); rotate_left; focus (first | omega | (simp; done) | (simp; omega))) | (with_reducible assumption))); done))⟩
        case round =>
          obtain ⟨k, hk, rfl, HI, kN, hb⟩ := hrel
          have cN := kN.cell
          have lN := kN.lt
          by_cases hlt : k < ps.length
          · obtain ⟨x, hx⟩ : ∃ x, ps[k]? = some x := ⟨ps[k], List.getElem?_eq_getElem hlt⟩
            have HX := Lib.hid hx
            have HPS := HP.out
            rcases HPS with ⟨_, _, _, h2⟩ | ⟨b, off, cap, he, h2, h3, h4⟩
            · rw [h2] at hlt; simp at hlt
            obtain ⟨rfl, rfl⟩ : a2 = some ⟨b, off, none⟩ ∧ c2 = cap := by simpa using he
            obtain ⟨p1, p2⟩ := (h4 k x hx).by hb
            have lP := lt_of_cell p1
            dsimp only at lP
            have hsz : x.name.size ≤ 9223372036854775807 := (HK.out x (List.mem_of_getElem? hx)).1
            have i1 : (0 : Int) ≤ (k : Int) := by omega
            have i2 : (k : Int) < (ps.length : Int) := by omega
            clear hx he
            rcases Bool.eq_false_or_eq_true (nameB x.name) with hnm | hnm
            · rcases Bool.eq_false_or_eq_true (inB x.net 0 (nets - 1)) with hin | hin
              · by_cases hk0 : k = 0
                · have HK0 := Lib.hid hk0
                  have hx0 := HX.out
                  rw [hk0] at hx0
                  have HX0 := Lib.hid hx0
                  have hkz : decide (0 < k) = false := by rw [decide_eq_false_iff_not]; omega
                  clear h4 hk0 hx0
                  have HOK := Lib.hid (HK0.out.symm ▸ ptOk_zero HX0.out hnm hin : ptOk nets ps k = true)
                  go_wp2
                  go_quiet ((first | (go_at_call 48; exact Calls.quiet_of_same ((implIsName_any x.name _ hsz).mono fun _ _ h => ⟨h.1, h.2.symm⟩)) | (go_at_call 47; exact Calls.quiet_of_same ((within_any _ _ _ _).mono fun _ _ h => ⟨h.1, h.2.symm⟩))))
                  go_wp2
                  exact ⟨⟨k + 1, by omega, by go_num, Lib.hid (fun i hj => by
                    by_cases e : i = k
                    · subst e; exact HOK.out
                    · exact HI.out i (by omega)), (by ((repeat (first | (with_reducible assumption) | (with_reducible refine Blk.drewN ?_ _) | (with_reducible refine Blk.drew ?_) | ((with_reducible refine Blk.new _ ?_); focus (first | omega | (simp; done) | (simp; omega))) | (with_reducible refine Blk.past ?_ _) | ((with_reducible refine Blk.apart ?_ _ _ _ ?_); rotate_left; focus (first | omega | (simp; done) | (simp; omega))) | (with_reducible refine Blk.by (by assumption) ?_))); done)), (by ((repeat (first | (with_reducible exact Below.refl _ _) | (with_reducible refine below_drewN ?_ _) | (with_reducible refine Below.drew ?_) | (with_reducible refine below_al ?_ _) | (with_reducible refine below_on (by assumption) ?_) | ((with_reducible refine Below.setCell ?_ ?_ _); rotate_left; focus (first | omega | (simp; done) | (simp; omega))) | (with_reducible assumption))); done))⟩, by simp [intOf]; omega⟩
                · obtain ⟨j, rfl⟩ : ∃ j, k = j + 1 := ⟨k - 1, by omega⟩
                  obtain ⟨y, hy⟩ : ∃ y, ps[j]? = some y := ⟨ps[j]'(by omega), List.getElem?_eq_getElem (by omega)⟩
                  have HY := Lib.hid hy
                  obtain ⟨q1, q2⟩ := (h4 j y hy).by hb
                  have j1 : (0 : Int) < (j : Int) + 1 := by omega
                  have j2 : (0 : Int) ≤ (j : Int) := by omega
                  have j3 : (j : Int) < (ps.length : Int) := by omega
                  have j4 : (j : Int) + 1 < (ps.length : Int) := by omega
                  clear hy h4
                  rcases Bool.eq_false_or_eq_true (Op.bytesLess y.name.toList x.name.toList) with hls | hls
                  · have HOK := Lib.hid (ptOk_succ HX.out HY.out hnm hin hls)
                    go_wp2
                    go_quiet ((first | (go_at_call 48; exact Calls.quiet_of_same ((implIsName_any x.name _ hsz).mono fun _ _ h => ⟨h.1, h.2.symm⟩)) | (go_at_call 47; exact Calls.quiet_of_same ((within_any _ _ _ _).mono fun _ _ h => ⟨h.1, h.2.symm⟩))))
                    go_wp2
                    exact ⟨⟨(j + 1) + 1, by omega, by go_num, Lib.hid (fun i hj => by
                      by_cases e : i = (j + 1)
                      · subst e; exact HOK.out
                      · exact HI.out i (by omega)), (by ((repeat (first | (with_reducible assumption) | (with_reducible refine Blk.drewN ?_ _) | (with_reducible refine Blk.drew ?_) | ((with_reducible refine Blk.new _ ?_); focus (first | omega | (simp; done) | (simp; omega))) | (with_reducible refine Blk.past ?_ _) | ((with_reducible refine Blk.apart ?_ _ _ _ ?_); rotate_left; focus (first | omega | (simp; done) | (simp; omega))) | (with_reducible refine Blk.by (by assumption) ?_))); done)), (by ((repeat (first | (with_reducible exact Below.refl _ _) | (with_reducible refine below_drewN ?_ _) | (with_reducible refine Below.drew ?_) | (with_reducible refine below_al ?_ _) | (with_reducible refine below_on (by assumption) ?_) | ((with_reducible refine Below.setCell ?_ ?_ _); rotate_left; focus (first | omega | (simp; done) | (simp; omega))) | (with_reducible assumption))); done))⟩, by simp [intOf]; omega⟩
                  · have hr := Lib.hid (HPT.out _ hlt (ptOk_lt HX.out HY.out hls))
                    go_wp2
                    go_quiet ((first | (go_at_call 48; exact Calls.quiet_of_same ((implIsName_any x.name _ hsz).mono fun _ _ h => ⟨h.1, h.2.symm⟩)) | (go_at_call 47; exact Calls.quiet_of_same ((within_any _ _ _ _).mono fun _ _ h => ⟨h.1, h.2.symm⟩))))
                    go_wp2
                    go_ret
                    exact ⟨ret_bool hr.out.symm, (by ((repeat (first | (with_reducible exact Below.refl _ _) | (with_reducible refine below_drewN ?_ _) | (with_reducible refine Below.drew ?_) | (with_reducible refine below_al ?_ _) | (with_reducible refine below_on (by assumption) ?_) | ((with_reducible refine Below.setCell ?_ ?_ _); rotate_left; focus (first | omega | (simp; done) | (simp; omega))) | (with_reducible assumption))); done))⟩
              · have hr := Lib.hid (HPT.out _ hlt (ptOk_net HX.out hin))
                go_wp2
                go_quiet ((first | (go_at_call 48; exact Calls.quiet_of_same ((implIsName_any x.name _ hsz).mono fun _ _ h => ⟨h.1, h.2.symm⟩)) | (go_at_call 47; exact Calls.quiet_of_same ((within_any _ _ _ _).mono fun _ _ h => ⟨h.1, h.2.symm⟩))))
                go_wp2
                go_ret
                exact ⟨ret_bool hr.out.symm, (by ((repeat (first | (with_reducible exact Below.refl _ _) | (with_reducible refine below_drewN ?_ _) | (with_reducible refine Below.drew ?_) | (with_reducible refine below_al ?_ _) | (with_reducible refine below_on (by assumption) ?_) | ((with_reducible refine Below.setCell ?_ ?_ _); rotate_left; focus (first | omega | (simp; done) | (simp; omega))) | (with_reducible assumption))); done))⟩
            · have hr := Lib.hid (HPT.out _ hlt (ptOk_name HX.out hnm))
              go_wp2
              go_quiet ((first | (go_at_call 48; exact Calls.quiet_of_same ((implIsName_any x.name _ hsz).mono fun _ _ h => ⟨h.1, h.2.symm⟩)) | (go_at_call 47; exact Calls.quiet_of_same ((within_any _ _ _ _).mono fun _ _ h => ⟨h.1, h.2.symm⟩))))
              go_wp2
              go_ret
              exact ⟨ret_bool hr.out.symm, (by ((repeat (first | (with_reducible exact Below.refl _ _) | (with_reducible refine below_drewN ?_ _) | (with_reducible refine Below.drew ?_) | (with_reducible refine below_al ?_ _) | (with_reducible refine below_on (by assumption) ?_) | ((with_reducible refine Below.setCell ?_ ?_ _); rotate_left; focus (first | omega | (simp; done) | (simp; omega))) | (with_reducible assumption))); done))⟩
          · obtain rfl : k = ps.length := by omega
            have hr := Lib.hid (HEN.out HN1.out h24 h8 (fun i hi => HI.out i hi))
            have eg : ∀ args w, (callFunc 50 args).run Tryd.prog w = .ok (.enter 50 args) w := enters_of Tryd.func50 (by kernel_rfl) rfl
            have hcl : ∀ (W : World) (x : Dv) (sv : Value), Below wr.heap.size wr W → x ∈ ds → IntSl W sv x.pins → Calls Tryd.prog 50 (#[.agg #[.int .i64 x.kind, sv, .int .i64 x.wd, .int .i64 x.len]] ++ #[.pointer (some ⟨w.heap.size, 0, none⟩)]) W fun e w' => e = .returned (.bool (!dvB nets x)) ∧ Below W.heap.size W w' := by
              intro W x sv hbW _ hS
              show Calls Tryd.prog 50 #[.agg #[.int .i64 x.kind, sv, .int .i64 x.wd, .int .i64 x.len], .pointer (some ⟨w.heap.size, 0, none⟩)] W _
              exact vnClosure_any x sv nets w.heap.size W (cell_by' hbW (by rw [cN]; rfl)) hS (by omega) (by omega)
            have HC := Lib.hid (containsFuncD_any 50 #[.pointer (some ⟨w.heap.size, 0, none⟩)] eg (fun d => !dvB nets d) _ ds wr (HD.out.by hb) hcl)
            rw [dvs_any] at HC
            clear eg hcl HI
            go_wp2_with (go_at_call 49; refine HC.out.mono ?_; rintro e w1 ⟨rfl, hb1⟩)
            go_ret
            exact ⟨ret_bool (by rw [hr.out]), (by ((repeat (first | (with_reducible exact Below.refl _ _) | (with_reducible refine below_drewN ?_ _) | (with_reducible refine Below.drew ?_) | (with_reducible refine below_al ?_ _) | (with_reducible refine below_on (by assumption) ?_) | ((with_reducible refine Below.setCell ?_ ?_ _); rotate_left; focus (first | omega | (simp; done) | (simp; omega))) | (with_reducible assumption))); done))⟩
      · have hr := Lib.hid (HNP.out h8)
        go_enter Tryd.func18, Tryd.ntmps18
        go_wp2_with (go_at_call 47; refine (within_any _ _ _ _).mono ?_; rintro e w' ⟨rfl, rfl⟩)
        go_ret
        exact ⟨ret_bool hr.out.symm, (by ((repeat (first | (with_reducible exact Below.refl _ _) | (with_reducible refine below_drewN ?_ _) | (with_reducible refine Below.drew ?_) | (with_reducible refine below_al ?_ _) | (with_reducible refine below_on (by assumption) ?_) | ((with_reducible refine Below.setCell ?_ ?_ _); rotate_left; focus (first | omega | (simp; done) | (simp; omega))) | (with_reducible assumption))); done))⟩
    · have hr := Lib.hid (HND.out h24)
      go_enter Tryd.func18, Tryd.ntmps18
      go_wp2_with (go_at_call 47; refine (within_any _ _ _ _).mono ?_; rintro e w' ⟨rfl, rfl⟩)
      go_ret
      exact ⟨ret_bool hr.out.symm, (by ((repeat (first | (with_reducible exact Below.refl _ _) | (with_reducible refine below_drewN ?_ _) | (with_reducible refine Below.drew ?_) | (with_reducible refine below_al ?_ _) | (with_reducible refine below_on (by assumption) ?_) | ((with_reducible refine Below.setCell ?_ ?_ _); rotate_left; focus (first | omega | (simp; done) | (simp; omega))) | (with_reducible assumption))); done))⟩
  · have hr := Lib.hid (HNn.out hn)
    go_enter Tryd.func18, Tryd.ntmps18
    go_wp2_with (go_at_call 47; refine (within_any _ _ _ _).mono ?_; rintro e w' ⟨rfl, rfl⟩)
    go_ret
    exact ⟨ret_bool hr.out.symm, (by ((repeat (first | (with_reducible exact Below.refl _ _) | (with_reducible refine below_drewN ?_ _) | (with_reducible refine Below.drew ?_) | (with_reducible refine below_al ?_ _) | (with_reducible refine below_on (by assumption) ?_) | ((with_reducible refine Below.setCell ?_ ?_ _); rotate_left; focus (first | omega | (simp; done) | (simp; omega))) | (with_reducible assumption))); done))⟩
end Go.Proofs.YtglddnkpccgchaaDoor
