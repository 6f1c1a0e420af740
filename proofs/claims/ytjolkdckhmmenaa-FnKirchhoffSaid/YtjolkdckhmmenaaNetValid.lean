/- Contracts of the two IsValidNetwork. -/
import Derived.Test.YtjolkdckhmmenaaRes
import Derived.Test.YtjolkdckhmmenaaValid
namespace Go.Proofs.Ytjolkdckhmmenaa
open Go.RowKit
set_option linter.unusedVariables false
set_option linter.unusedSimpArgs false

set_option maxRecDepth 100000 in
set_option maxHeartbeats 4000000 in
theorem specValid_any (nodes : Int) (sv : Value) (xs : List Res) (w : World) (h : ResSl w sv xs) (hok : ∀ x ∈ xs, x.ok) (hnn : -9223372036854775808 ≤ nodes ∧ nodes ≤ 9223372036854775807) :
    Calls Try.prog 18 #[.agg #[.int .i64 nodes, sv]] w fun e w' => e = .returned (.bool (nwB nodes xs)) ∧ Below w.heap.size w w' := by
  obtain ⟨r, hr⟩ : ∃ r, nwB nodes xs = r := ⟨_, rfl⟩
  rw [hr]
  have HR := Lib.hid hr
  clear hr
  have hlen : xs.length ≤ maxLen := by
    rcases h with ⟨_, _, _, h2⟩ | ⟨b, off, cap, h1, h2, h3, _⟩
    · subst h2; simp
    · exact Nat.le_trans h2 h3
  unfold maxLen at hlen
  rcases Bool.eq_false_or_eq_true (inB nodes 1 6) with a | a
  · by_cases h8 : xs.length ≤ 8
    · have hnb := inB_iff.1 a
      have HL := Lib.hid h
      have HA := Lib.hid a
      have HK := Lib.hid hok
      obtain ⟨ad, c, rfl⟩ := h.len
      clear h hok
      go_enter Try.func18, Try.ntmps18
      go_wp2_with (go_at_call 32; refine (l16In_any _ _ _ _).mono ?_; rintro e w' ⟨rfl, rfl⟩)
      go_loopw [3, 4] (fun l i wr => ∃ k : Nat, k ≤ xs.length ∧ i = .int .i64 k ∧ l = .int .i64 (leftOf (xs.take k)) ∧ (0 ≤ leftOf (xs.take k) ∧ leftOf (xs.take k) ≤ 10000000000000000) ∧ (∀ x ∈ xs.take k, rsB nodes x = true) ∧ Blk wr w.heap.size #[.int .i64 nodes, .slice ad xs.length c] 26 ∧ Below w.heap.size w wr) (fun _ i _ => xs.length - (intOf i).toNat)
      case atStart => exact ⟨0, Nat.zero_le _, rfl, rfl, by simp [leftOf], by simp, (by ((repeat (first | (with_reducible assumption) | (with_reducible refine Blk.drewN ?_ _) | (with_reducible refine Blk.drew ?_) | ((with_reducible refine Blk.new _ ?_); focus (first | omega | (simp; done) | (simp; omega))) | (with_reducible refine Blk.past ?_ _) | ((with_reducible refine Blk.apart ?_ _ _ _ ?_); rotate_left; focus (first | omega | (simp; done) | (simp; omega))) | (with_reducible refine Blk.by (by assumption) ?_))); done)), (by ((repeat (first | (with_reducible exact Below.refl _ _) | (with_reducible refine below_drewN ?_ _) | (with_reducible refine Below.drew ?_) | (with_reducible refine below_al ?_ _) | (with_reducible refine below_on (by assumption) ?_) | ((with_reducible refine Below.setCell ?_ ?_ _); rotate_left; focus (first | omega | (simp; done) | (simp; omega))) | (with_reducible assumption))); done))⟩
      case round =>
        obtain ⟨k, hk, rfl, rfl, hl, hall, kN, hb⟩ := hrel
        have cN := kN.cell
        have fN := kN.free
        have lN := kN.lt
        have HALL := Lib.hid hall
        clear hall
        by_cases hlt : k < xs.length
        · obtain ⟨x, hx⟩ : ∃ x, xs[k]? = some x := ⟨xs[k], List.getElem?_eq_getElem hlt⟩
          obtain ⟨hk1, hk2, hk3, hk4⟩ := HK.out x (List.mem_of_getElem? hx)
          rcases HL.out with ⟨a0, c0, h1, h2⟩ | ⟨b, off, cap, h1, h2, h3, h4⟩
          · exact absurd hlt (by rw [h2]; simp)
          cases h1
          obtain ⟨c1, c2, c3, c4⟩ := (h4 k x hx).by hb
          clear h4
          unfold maxLen at h3
          have HT := Lib.hid (show leftOf (xs.take (k + 1)) = leftOf (xs.take k) / max x.num x.den from by rw [take_succ_of xs k x hx, leftOf_snoc])
          have HX := Lib.hid hx
          clear hx
          generalize leftOf (xs.take k) = l at *
          rcases Bool.eq_false_or_eq_true (inB x.a 0 (nodes - 1)) with e1 | e1
          case inr =>
            go_wp2_with (go_at_call 32; refine (l16In_any _ _ _ _).mono ?_; rintro e w' ⟨rfl, rfl⟩)
            go_ret
            exact ⟨ret_bool (by rw [← HR.out]; exact (nw_no3 HX.out (by simp [rsB, e1])).symm), (by ((repeat (first | (with_reducible exact Below.refl _ _) | (with_reducible refine below_drewN ?_ _) | (with_reducible refine Below.drew ?_) | (with_reducible refine below_al ?_ _) | (with_reducible refine below_on (by assumption) ?_) | ((with_reducible refine Below.setCell ?_ ?_ _); rotate_left; focus (first | omega | (simp; done) | (simp; omega))) | (with_reducible assumption))); done))⟩
          rcases Bool.eq_false_or_eq_true (inB x.b 0 (nodes - 1)) with e2 | e2
          case inr =>
            go_wp2_with (go_at_call 32; refine (l16In_any _ _ _ _).mono ?_; rintro e w' ⟨rfl, rfl⟩)
            go_ret
            exact ⟨ret_bool (by rw [← HR.out]; exact (nw_no3 HX.out (by simp [rsB, e2])).symm), (by ((repeat (first | (with_reducible exact Below.refl _ _) | (with_reducible refine below_drewN ?_ _) | (with_reducible refine Below.drew ?_) | (with_reducible refine below_al ?_ _) | (with_reducible refine below_on (by assumption) ?_) | ((with_reducible refine Below.setCell ?_ ?_ _); rotate_left; focus (first | omega | (simp; done) | (simp; omega))) | (with_reducible assumption))); done))⟩
          rcases Bool.eq_false_or_eq_true (x.a == x.b) with e3 | e3
          case inl =>
            go_wp2_with (go_at_call 32; refine (l16In_any _ _ _ _).mono ?_; rintro e w' ⟨rfl, rfl⟩)
            go_ret
            exact ⟨ret_bool (by rw [← HR.out]; exact (nw_no3 HX.out (by simp only [rsB, e3]; simp)).symm), (by ((repeat (first | (with_reducible exact Below.refl _ _) | (with_reducible refine below_drewN ?_ _) | (with_reducible refine Below.drew ?_) | (with_reducible refine below_al ?_ _) | (with_reducible refine below_on (by assumption) ?_) | ((with_reducible refine Below.setCell ?_ ?_ _); rotate_left; focus (first | omega | (simp; done) | (simp; omega))) | (with_reducible assumption))); done))⟩
          rcases Bool.eq_false_or_eq_true (vrB x.num x.den) with e4 | e4
          case inr =>
            have ev := Lib.hid e4
            go_wp2_with (go_at_call 32; refine (l16In_any _ _ _ _).mono ?_; rintro e w' ⟨rfl, rfl⟩)
            refine (l26Valid_is x.num x.den false _ ev.out hk3.1 hk3.2 hk4.1 hk4.2).mono ?_
            rintro e w1 ⟨rfl, hb1⟩
            have k1 := Blk.by hb1 ((kN.past _))
            have k2 : Blk w1 wr.heap.size #[.int .i64 x.a, .int .i64 x.b, .int .i64 x.num, .int .i64 x.den] 39 := Blk.by hb1 (Blk.new _ rfl)
            have c1 := k1.cell
            have c2 := k2.cell
            have f1 := k1.free
            have f2 := k2.free
            go_wp2
            go_ret
            exact ⟨ret_bool (by rw [← HR.out]; exact (nw_no3 HX.out (by simp [rsB, ev.out])).symm), (by ((repeat (first | (with_reducible exact Below.refl _ _) | (with_reducible refine below_drewN ?_ _) | (with_reducible refine Below.drew ?_) | (with_reducible refine below_al ?_ _) | (with_reducible refine below_on (by assumption) ?_) | ((with_reducible refine Below.setCell ?_ ?_ _); rotate_left; focus (first | omega | (simp; done) | (simp; omega))) | (with_reducible assumption))); done))⟩
          rcases Bool.eq_false_or_eq_true (inB x.num 1 1000000) with e5 | e5
          case inr =>
            have ev := Lib.hid e4
            go_wp2_with (go_at_call 32; refine (l16In_any _ _ _ _).mono ?_; rintro e w' ⟨rfl, rfl⟩)
            refine (l26Valid_is x.num x.den true _ ev.out hk3.1 hk3.2 hk4.1 hk4.2).mono ?_
            rintro e w1 ⟨rfl, hb1⟩
            have k1 := Blk.by hb1 ((kN.past _))
            have k2 : Blk w1 wr.heap.size #[.int .i64 x.a, .int .i64 x.b, .int .i64 x.num, .int .i64 x.den] 39 := Blk.by hb1 (Blk.new _ rfl)
            have c1 := k1.cell
            have c2 := k2.cell
            have f1 := k1.free
            have f2 := k2.free
            go_wp2_with (go_at_call 32; refine (l16In_any _ _ _ _).mono ?_; rintro e w' ⟨rfl, rfl⟩)
            go_ret
            exact ⟨ret_bool (by rw [← HR.out]; exact (nw_no3 HX.out (by simp [rsB, e5])).symm), (by ((repeat (first | (with_reducible exact Below.refl _ _) | (with_reducible refine below_drewN ?_ _) | (with_reducible refine Below.drew ?_) | (with_reducible refine below_al ?_ _) | (with_reducible refine below_on (by assumption) ?_) | ((with_reducible refine Below.setCell ?_ ?_ _); rotate_left; focus (first | omega | (simp; done) | (simp; omega))) | (with_reducible assumption))); done))⟩
          by_cases e6 : x.den ≤ 1000000
          case neg =>
            have ev := Lib.hid e4
            go_wp2_with (go_at_call 32; refine (l16In_any _ _ _ _).mono ?_; rintro e w' ⟨rfl, rfl⟩)
            refine (l26Valid_is x.num x.den true _ ev.out hk3.1 hk3.2 hk4.1 hk4.2).mono ?_
            rintro e w1 ⟨rfl, hb1⟩
            have k1 := Blk.by hb1 ((kN.past _))
            have k2 : Blk w1 wr.heap.size #[.int .i64 x.a, .int .i64 x.b, .int .i64 x.num, .int .i64 x.den] 39 := Blk.by hb1 (Blk.new _ rfl)
            have c1 := k1.cell
            have c2 := k2.cell
            have f1 := k1.free
            have f2 := k2.free
            go_wp2_with (go_at_call 32; refine (l16In_any _ _ _ _).mono ?_; rintro e w' ⟨rfl, rfl⟩)
            go_ret
            exact ⟨ret_bool (by rw [← HR.out]; exact (nw_no3 HX.out (by simp only [rsB, show decide (x.den ≤ 1000000) = false from by simp; omega]; simp)).symm), (by ((repeat (first | (with_reducible exact Below.refl _ _) | (with_reducible refine below_drewN ?_ _) | (with_reducible refine Below.drew ?_) | (with_reducible refine below_al ?_ _) | (with_reducible refine below_on (by assumption) ?_) | ((with_reducible refine Below.setCell ?_ ?_ _); rotate_left; focus (first | omega | (simp; done) | (simp; omega))) | (with_reducible assumption))); done))⟩
          case pos =>
            have ev := Lib.hid e4
            have h5 := inB_iff.1 e5
            have HQ := Lib.hid (show rsB nodes x = true from by simp only [rsB, e1, e2, e3, e4, e5, show decide (x.den ≤ 1000000) = true from by simpa using e6]; rfl)
            have hbd := left_bd l x.num x.den hl.1 hl.2 h5.1
            have hpos := vrB_pos e4
            go_wp2_with (go_at_call 32; refine (l16In_any _ _ _ _).mono ?_; rintro e w' ⟨rfl, rfl⟩)
            refine (l26Valid_is x.num x.den true _ ev.out hk3.1 hk3.2 hk4.1 hk4.2).mono ?_
            rintro e w1 ⟨rfl, hb1⟩
            have k1 := Blk.by hb1 ((kN.past _))
            have k2 : Blk w1 wr.heap.size #[.int .i64 x.a, .int .i64 x.b, .int .i64 x.num, .int .i64 x.den] 39 := Blk.by hb1 (Blk.new _ rfl)
            have c1 := k1.cell
            have c2 := k2.cell
            have f1 := k1.free
            have f2 := k2.free
            go_wp2_with (go_at_call 32; refine (l16In_any _ _ _ _).mono ?_; rintro e w' ⟨rfl, rfl⟩)
            all_goals
              refine ⟨⟨k + 1, by omega, by go_num, by rw [HT.out]; first | rfl | (congr 2; omega), by rw [HT.out]; exact hbd, ?_, (by ((repeat (first | (with_reducible assumption) | (with_reducible refine Blk.drewN ?_ _) | (with_reducible refine Blk.drew ?_) | ((with_reducible refine Blk.new _ ?_); focus (first | omega | (simp; done) | (simp; omega))) | (with_reducible refine Blk.past ?_ _) | ((with_reducible refine Blk.apart ?_ _ _ _ ?_); rotate_left; focus (first | omega | (simp; done) | (simp; omega))) | (with_reducible refine Blk.by (by assumption) ?_))); done)), (by ((repeat (first | (with_reducible exact Below.refl _ _) | (with_reducible refine below_drewN ?_ _) | (with_reducible refine Below.drew ?_) | (with_reducible refine below_al ?_ _) | (with_reducible refine below_on (by assumption) ?_) | ((with_reducible refine Below.setCell ?_ ?_ _); rotate_left; focus (first | omega | (simp; done) | (simp; omega))) | (with_reducible assumption))); done))⟩, by simp [intOf]; omega⟩
              intro y hy
              rw [take_succ_of xs k x HX.out] at hy
              rcases List.mem_append.1 hy with hy | hy
              · exact HALL.out y hy
              · rw [List.mem_singleton.1 hy]; exact HQ.out
        · obtain rfl : k = xs.length := by omega
          have HE := Lib.hid (show nwB nodes xs = decide (0 < leftOf (xs.take xs.length)) from by rw [List.take_length]; exact nw_yes HA.out h8 (by have := HALL.out; rwa [List.take_length] at this))
          generalize leftOf (xs.take xs.length) = l at *
          go_wp2
          go_ret
          exact ⟨ret_bool (by rw [← HR.out, HE.out]), (by ((repeat (first | (with_reducible exact Below.refl _ _) | (with_reducible refine below_drewN ?_ _) | (with_reducible refine Below.drew ?_) | (with_reducible refine below_al ?_ _) | (with_reducible refine below_on (by assumption) ?_) | ((with_reducible refine Below.setCell ?_ ?_ _); rotate_left; focus (first | omega | (simp; done) | (simp; omega))) | (with_reducible assumption))); done))⟩
    · obtain ⟨ad, c, rfl⟩ := h.len
      clear h hok
      go_enter Try.func18, Try.ntmps18
      go_wp2_with (go_at_call 32; refine (l16In_any _ _ _ _).mono ?_; rintro e w' ⟨rfl, rfl⟩)
      go_ret
      exact ⟨ret_bool (by rw [← HR.out]; exact (nw_no2 nodes (by omega)).symm), (by ((repeat (first | (with_reducible exact Below.refl _ _) | (with_reducible refine below_drewN ?_ _) | (with_reducible refine Below.drew ?_) | (with_reducible refine below_al ?_ _) | (with_reducible refine below_on (by assumption) ?_) | ((with_reducible refine Below.setCell ?_ ?_ _); rotate_left; focus (first | omega | (simp; done) | (simp; omega))) | (with_reducible assumption))); done))⟩
  · obtain ⟨ad, c, rfl⟩ := h.len
    clear h hok
    go_enter Try.func18, Try.ntmps18
    go_wp2_with (go_at_call 32; refine (l16In_any _ _ _ _).mono ?_; rintro e w' ⟨rfl, rfl⟩)
    go_ret
    exact ⟨ret_bool (by rw [← HR.out]; exact (nw_no1 xs a).symm), (by ((repeat (first | (with_reducible exact Below.refl _ _) | (with_reducible refine below_drewN ?_ _) | (with_reducible refine Below.drew ?_) | (with_reducible refine below_al ?_ _) | (with_reducible refine below_on (by assumption) ?_) | ((with_reducible refine Below.setCell ?_ ?_ _); rotate_left; focus (first | omega | (simp; done) | (simp; omega))) | (with_reducible assumption))); done))⟩

set_option maxRecDepth 100000 in
set_option maxHeartbeats 4000000 in
theorem implValid_any (nodes : Int) (sv : Value) (xs : List Res) (w : World) (h : ResSl w sv xs) (hok : ∀ x ∈ xs, x.ok) (hnn : -9223372036854775808 ≤ nodes ∧ nodes ≤ 9223372036854775807) :
    Calls Try.prog 19 #[.agg #[.int .i64 nodes, sv]] w fun e w' => e = .returned (.bool (nwB nodes xs)) ∧ Below w.heap.size w w' := by
  obtain ⟨r, hr⟩ : ∃ r, nwB nodes xs = r := ⟨_, rfl⟩
  rw [hr]
  have HR := Lib.hid hr
  clear hr
  have hlen : xs.length ≤ maxLen := by
    rcases h with ⟨_, _, _, h2⟩ | ⟨b, off, cap, h1, h2, h3, _⟩
    · subst h2; simp
    · exact Nat.le_trans h2 h3
  unfold maxLen at hlen
  rcases Bool.eq_false_or_eq_true (inB nodes 1 6) with a | a
  · by_cases h8 : xs.length ≤ 8
    · have hnb := inB_iff.1 a
      have HL := Lib.hid h
      have HA := Lib.hid a
      have HK := Lib.hid hok
      obtain ⟨ad, c, rfl⟩ := h.len
      clear h hok
      go_enter Try.func19, Try.ntmps19
      go_wp2_with (go_at_call 33; refine (within_any _ _ _ _).mono ?_; rintro e w' ⟨rfl, rfl⟩)
      go_loopw [3, 19] (fun l i wr => ∃ k : Nat, k ≤ xs.length ∧ i = .int .i64 k ∧ l = .int .i64 (leftOf (xs.take k)) ∧ (0 ≤ leftOf (xs.take k) ∧ leftOf (xs.take k) ≤ 10000000000000000) ∧ (∀ x ∈ xs.take k, rsB nodes x = true) ∧ Blk wr w.heap.size #[.int .i64 nodes, .slice ad xs.length c] 26 ∧ Below w.heap.size w wr) (fun _ i _ => xs.length - (intOf i).toNat)
      case atStart => exact ⟨0, Nat.zero_le _, rfl, rfl, by simp [leftOf], by simp, (by ((repeat (first | (with_reducible assumption) | (with_reducible refine Blk.drewN ?_ _) | (with_reducible refine Blk.drew ?_) | ((with_reducible refine Blk.new _ ?_); focus (first | omega | (simp; done) | (simp; omega))) | (with_reducible refine Blk.past ?_ _) | ((with_reducible refine Blk.apart ?_ _ _ _ ?_); rotate_left; focus (first | omega | (simp; done) | (simp; omega))) | (with_reducible refine Blk.by (by assumption) ?_))); done)), (by ((repeat (first | (with_reducible exact Below.refl _ _) | (with_reducible refine below_drewN ?_ _) | (with_reducible refine Below.drew ?_) | (with_reducible refine below_al ?_ _) | (with_reducible refine below_on (by assumption) ?_) | ((with_reducible refine Below.setCell ?_ ?_ _); rotate_left; focus (first | omega | (simp; done) | (simp; omega))) | (with_reducible assumption))); done))⟩
      case round =>
        obtain ⟨k, hk, rfl, rfl, hl, hall, kN, hb⟩ := hrel
        have cN := kN.cell
        have fN := kN.free
        have lN := kN.lt
        have HALL := Lib.hid hall
        clear hall
        by_cases hlt : k < xs.length
        · obtain ⟨x, hx⟩ : ∃ x, xs[k]? = some x := ⟨xs[k], List.getElem?_eq_getElem hlt⟩
          obtain ⟨hk1, hk2, hk3, hk4⟩ := HK.out x (List.mem_of_getElem? hx)
          rcases HL.out with ⟨a0, c0, h1, h2⟩ | ⟨b, off, cap, h1, h2, h3, h4⟩
          · exact absurd hlt (by rw [h2]; simp)
          cases h1
          obtain ⟨c1, c2, c3, c4⟩ := (h4 k x hx).by hb
          clear h4
          unfold maxLen at h3
          have HT := Lib.hid (show leftOf (xs.take (k + 1)) = leftOf (xs.take k) / max x.num x.den from by rw [take_succ_of xs k x hx, leftOf_snoc])
          have HX := Lib.hid hx
          clear hx
          generalize leftOf (xs.take k) = l at *
          rcases Bool.eq_false_or_eq_true (inB x.a 0 (nodes - 1)) with e1 | e1
          case inr =>
            go_wp2_with (go_at_call 33; refine (within_any _ _ _ _).mono ?_; rintro e w' ⟨rfl, rfl⟩)
            go_ret
            exact ⟨ret_bool (by rw [← HR.out]; exact (nw_no3 HX.out (by simp [rsB, e1])).symm), (by ((repeat (first | (with_reducible exact Below.refl _ _) | (with_reducible refine below_drewN ?_ _) | (with_reducible refine Below.drew ?_) | (with_reducible refine below_al ?_ _) | (with_reducible refine below_on (by assumption) ?_) | ((with_reducible refine Below.setCell ?_ ?_ _); rotate_left; focus (first | omega | (simp; done) | (simp; omega))) | (with_reducible assumption))); done))⟩
          rcases Bool.eq_false_or_eq_true (inB x.b 0 (nodes - 1)) with e2 | e2
          case inr =>
            go_wp2_with (go_at_call 33; refine (within_any _ _ _ _).mono ?_; rintro e w' ⟨rfl, rfl⟩)
            go_ret
            exact ⟨ret_bool (by rw [← HR.out]; exact (nw_no3 HX.out (by simp [rsB, e2])).symm), (by ((repeat (first | (with_reducible exact Below.refl _ _) | (with_reducible refine below_drewN ?_ _) | (with_reducible refine Below.drew ?_) | (with_reducible refine below_al ?_ _) | (with_reducible refine below_on (by assumption) ?_) | ((with_reducible refine Below.setCell ?_ ?_ _); rotate_left; focus (first | omega | (simp; done) | (simp; omega))) | (with_reducible assumption))); done))⟩
          rcases Bool.eq_false_or_eq_true (x.a == x.b) with e3 | e3
          case inl =>
            go_wp2_with (go_at_call 33; refine (within_any _ _ _ _).mono ?_; rintro e w' ⟨rfl, rfl⟩)
            go_ret
            exact ⟨ret_bool (by rw [← HR.out]; exact (nw_no3 HX.out (by simp only [rsB, e3]; simp)).symm), (by ((repeat (first | (with_reducible exact Below.refl _ _) | (with_reducible refine below_drewN ?_ _) | (with_reducible refine Below.drew ?_) | (with_reducible refine below_al ?_ _) | (with_reducible refine below_on (by assumption) ?_) | ((with_reducible refine Below.setCell ?_ ?_ _); rotate_left; focus (first | omega | (simp; done) | (simp; omega))) | (with_reducible assumption))); done))⟩
          rcases Bool.eq_false_or_eq_true (vrB x.num x.den) with e4 | e4
          case inr =>
            have ev := Lib.hid e4
            go_wp2_with (go_at_call 33; refine (within_any _ _ _ _).mono ?_; rintro e w' ⟨rfl, rfl⟩)
            refine (validRatio_is x.num x.den false _ ev.out hk3.1 hk3.2 hk4.1 hk4.2).mono ?_
            rintro e w1 ⟨rfl, hb1⟩
            have k1 := Blk.by hb1 ((kN.past _))
            have k2 : Blk w1 wr.heap.size #[.int .i64 x.a, .int .i64 x.b, .int .i64 x.num, .int .i64 x.den] 39 := Blk.by hb1 (Blk.new _ rfl)
            have c1 := k1.cell
            have c2 := k2.cell
            have f1 := k1.free
            have f2 := k2.free
            go_wp2
            go_ret
            exact ⟨ret_bool (by rw [← HR.out]; exact (nw_no3 HX.out (by simp [rsB, ev.out])).symm), (by ((repeat (first | (with_reducible exact Below.refl _ _) | (with_reducible refine below_drewN ?_ _) | (with_reducible refine Below.drew ?_) | (with_reducible refine below_al ?_ _) | (with_reducible refine below_on (by assumption) ?_) | ((with_reducible refine Below.setCell ?_ ?_ _); rotate_left; focus (first | omega | (simp; done) | (simp; omega))) | (with_reducible assumption))); done))⟩
          rcases Bool.eq_false_or_eq_true (inB x.num 1 1000000) with e5 | e5
          case inr =>
            have ev := Lib.hid e4
            go_wp2_with (go_at_call 33; refine (within_any _ _ _ _).mono ?_; rintro e w' ⟨rfl, rfl⟩)
            refine (validRatio_is x.num x.den true _ ev.out hk3.1 hk3.2 hk4.1 hk4.2).mono ?_
            rintro e w1 ⟨rfl, hb1⟩
            have k1 := Blk.by hb1 ((kN.past _))
            have k2 : Blk w1 wr.heap.size #[.int .i64 x.a, .int .i64 x.b, .int .i64 x.num, .int .i64 x.den] 39 := Blk.by hb1 (Blk.new _ rfl)
            have c1 := k1.cell
            have c2 := k2.cell
            have f1 := k1.free
            have f2 := k2.free
            go_wp2_with (go_at_call 33; refine (within_any _ _ _ _).mono ?_; rintro e w' ⟨rfl, rfl⟩)
            go_ret
            exact ⟨ret_bool (by rw [← HR.out]; exact (nw_no3 HX.out (by simp [rsB, e5])).symm), (by ((repeat (first | (with_reducible exact Below.refl _ _) | (with_reducible refine below_drewN ?_ _) | (with_reducible refine Below.drew ?_) | (with_reducible refine below_al ?_ _) | (with_reducible refine below_on (by assumption) ?_) | ((with_reducible refine Below.setCell ?_ ?_ _); rotate_left; focus (first | omega | (simp; done) | (simp; omega))) | (with_reducible assumption))); done))⟩
          by_cases e6 : x.den ≤ 1000000
          case neg =>
            have ev := Lib.hid e4
            go_wp2_with (go_at_call 33; refine (within_any _ _ _ _).mono ?_; rintro e w' ⟨rfl, rfl⟩)
            refine (validRatio_is x.num x.den true _ ev.out hk3.1 hk3.2 hk4.1 hk4.2).mono ?_
            rintro e w1 ⟨rfl, hb1⟩
            have k1 := Blk.by hb1 ((kN.past _))
            have k2 : Blk w1 wr.heap.size #[.int .i64 x.a, .int .i64 x.b, .int .i64 x.num, .int .i64 x.den] 39 := Blk.by hb1 (Blk.new _ rfl)
            have c1 := k1.cell
            have c2 := k2.cell
            have f1 := k1.free
            have f2 := k2.free
            go_wp2_with (go_at_call 33; refine (within_any _ _ _ _).mono ?_; rintro e w' ⟨rfl, rfl⟩)
            go_ret
            exact ⟨ret_bool (by rw [← HR.out]; exact (nw_no3 HX.out (by simp only [rsB, show decide (x.den ≤ 1000000) = false from by simp; omega]; simp)).symm), (by ((repeat (first | (with_reducible exact Below.refl _ _) | (with_reducible refine below_drewN ?_ _) | (with_reducible refine Below.drew ?_) | (with_reducible refine below_al ?_ _) | (with_reducible refine below_on (by assumption) ?_) | ((with_reducible refine Below.setCell ?_ ?_ _); rotate_left; focus (first | omega | (simp; done) | (simp; omega))) | (with_reducible assumption))); done))⟩
          case pos =>
            have ev := Lib.hid e4
            have h5 := inB_iff.1 e5
            have HQ := Lib.hid (show rsB nodes x = true from by simp only [rsB, e1, e2, e3, e4, e5, show decide (x.den ≤ 1000000) = true from by simpa using e6]; rfl)
            have hbd := left_bd l x.num x.den hl.1 hl.2 h5.1
            have hpos := vrB_pos e4
            go_wp2_with (go_at_call 33; refine (within_any _ _ _ _).mono ?_; rintro e w' ⟨rfl, rfl⟩)
            refine (validRatio_is x.num x.den true _ ev.out hk3.1 hk3.2 hk4.1 hk4.2).mono ?_
            rintro e w1 ⟨rfl, hb1⟩
            have k1 := Blk.by hb1 ((kN.past _))
            have k2 : Blk w1 wr.heap.size #[.int .i64 x.a, .int .i64 x.b, .int .i64 x.num, .int .i64 x.den] 39 := Blk.by hb1 (Blk.new _ rfl)
            have c1 := k1.cell
            have c2 := k2.cell
            have f1 := k1.free
            have f2 := k2.free
            go_wp2_with (go_at_call 33; refine (within_any _ _ _ _).mono ?_; rintro e w' ⟨rfl, rfl⟩)
            all_goals
              refine ⟨⟨k + 1, by omega, by go_num, by rw [HT.out]; first | rfl | (congr 2; omega), by rw [HT.out]; exact hbd, ?_, (by ((repeat (first | (with_reducible assumption) | (with_reducible refine Blk.drewN ?_ _) | (with_reducible refine Blk.drew ?_) | ((with_reducible refine Blk.new _ ?_); focus (first | omega | (simp; done) | (simp; omega))) | (with_reducible refine Blk.past ?_ _) | ((with_reducible refine Blk.apart ?_ _ _ _ ?_); rotate_left; focus (first | omega | (simp; done) | (simp; omega))) | (with_reducible refine Blk.by (by assumption) ?_))); done)), (by ((repeat (first | (with_reducible exact Below.refl _ _) | (with_reducible refine below_drewN ?_ _) | (with_reducible refine Below.drew ?_) | (with_reducible refine below_al ?_ _) | (with_reducible refine below_on (by assumption) ?_) | ((with_reducible refine Below.setCell ?_ ?_ _); rotate_left; focus (first | omega | (simp; done) | (simp; omega))) | (with_reducible assumption))); done))⟩, by simp [intOf]; omega⟩
              intro y hy
              rw [take_succ_of xs k x HX.out] at hy
              rcases List.mem_append.1 hy with hy | hy
              · exact HALL.out y hy
              · rw [List.mem_singleton.1 hy]; exact HQ.out
        · obtain rfl : k = xs.length := by omega
          have HE := Lib.hid (show nwB nodes xs = decide (0 < leftOf (xs.take xs.length)) from by rw [List.take_length]; exact nw_yes HA.out h8 (by have := HALL.out; rwa [List.take_length] at this))
          generalize leftOf (xs.take xs.length) = l at *
          go_wp2
          go_ret
          exact ⟨ret_bool (by rw [← HR.out, HE.out]), (by ((repeat (first | (with_reducible exact Below.refl _ _) | (with_reducible refine below_drewN ?_ _) | (with_reducible refine Below.drew ?_) | (with_reducible refine below_al ?_ _) | (with_reducible refine below_on (by assumption) ?_) | ((with_reducible refine Below.setCell ?_ ?_ _); rotate_left; focus (first | omega | (simp; done) | (simp; omega))) | (with_reducible assumption))); done))⟩
    · obtain ⟨ad, c, rfl⟩ := h.len
      clear h hok
      go_enter Try.func19, Try.ntmps19
      go_wp2_with (go_at_call 33; refine (within_any _ _ _ _).mono ?_; rintro e w' ⟨rfl, rfl⟩)
      go_ret
      exact ⟨ret_bool (by rw [← HR.out]; exact (nw_no2 nodes (by omega)).symm), (by ((repeat (first | (with_reducible exact Below.refl _ _) | (with_reducible refine below_drewN ?_ _) | (with_reducible refine Below.drew ?_) | (with_reducible refine below_al ?_ _) | (with_reducible refine below_on (by assumption) ?_) | ((with_reducible refine Below.setCell ?_ ?_ _); rotate_left; focus (first | omega | (simp; done) | (simp; omega))) | (with_reducible assumption))); done))⟩
  · obtain ⟨ad, c, rfl⟩ := h.len
    clear h hok
    go_enter Try.func19, Try.ntmps19
    go_wp2_with (go_at_call 33; refine (within_any _ _ _ _).mono ?_; rintro e w' ⟨rfl, rfl⟩)
    go_ret
    exact ⟨ret_bool (by rw [← HR.out]; exact (nw_no1 xs a).symm), (by ((repeat (first | (with_reducible exact Below.refl _ _) | (with_reducible refine below_drewN ?_ _) | (with_reducible refine Below.drew ?_) | (with_reducible refine below_al ?_ _) | (with_reducible refine below_on (by assumption) ?_) | ((with_reducible refine Below.setCell ?_ ?_ _); rotate_left; focus (first | omega | (simp; done) | (simp; omega))) | (with_reducible assumption))); done))⟩
end Go.Proofs.Ytjolkdckhmmenaa
