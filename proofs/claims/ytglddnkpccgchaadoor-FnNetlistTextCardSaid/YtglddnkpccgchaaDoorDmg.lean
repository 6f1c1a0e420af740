/- l16Damage: some text, not much longer. -/
import Derived.Test.YtglddnkpccgchaaDoorSrcL
import Derived.Test.YtglddnkpccgchaaDoorDrawMs
import Derived.Test.YtglddnkpccgchaaDoorRdD
import Derived.Test.YtglddnkpccgchaaDoorFmtS
import Derived.Test.YtglddnkpccgchaaDoorTakeL
namespace Go.Proofs.YtglddnkpccgchaaDoor
open Go.RowKit
set_option linter.unusedVariables false
set_option linter.unusedSimpArgs false

theorem five_at (q : Int) (h0 : 0 ≤ q) (h5 : q < 5) : ∃ u : ByteArray, (#[Value.string ⟨#[32]⟩, Value.string ⟨#[48]⟩, Value.string ⟨#[120]⟩, Value.string ⟨#[10]⟩, Value.string ⟨#[55]⟩] : Array Value)[q.toNat]? = some (.string u) ∧ u.size = 1 := by
  have : q = 0 ∨ q = 1 ∨ q = 2 ∨ q = 3 ∨ q = 4 := by omega
  rcases this with rfl | rfl | rfl | rfl | rfl
  · exact ⟨_, rfl, rfl⟩
  · exact ⟨_, rfl, rfl⟩
  · exact ⟨_, rfl, rfl⟩
  · exact ⟨_, rfl, rfl⟩
  · exact ⟨_, rfl, rfl⟩

set_option maxRecDepth 100000 in
set_option maxHeartbeats 4000000 in
theorem l16Damage_any (W0 : World) (g : Nat) (sv : Value) (n : Nat) (t : ByteArray) (w : World) (hD : Src1 W0 g sv n w) (ht : t.size ≤ 400000) :
    Calls Tryd.prog 53 #[.pointer (some ⟨g, 0, none⟩), .string t] w fun e w' => ∃ t' : ByteArray, e = .returned (.string t') ∧ t'.size ≤ 2 * t.size + 1 ∧ Src1 W0 g sv n w' := by
  have HN := Lib.hid (fun m w h => l01Next_all W0 g sv n m w h)
  have HD := Lib.hid hD
  have e1 : IntKind.i64.wrap ((t.size : Int) + 1) = (t.size : Int) + 1 := by simp [IntKind.wrap, IntKind.bits, IntKind.signed]; omega
  clear hD
  go_enter Tryd.func53, Tryd.ntmps53
  go_wp2_with fail
  refine (HN.out _ _ HD.out).mono ?_
  rintro e w1 ⟨k, rfl, hk0, hk1, hD1, ho1⟩
  obtain ⟨k, rfl⟩ := Int.eq_ofNat_of_zero_le hk0
  have hkt : k ≤ t.size := by omega
  have hkt2 : (k : Int) ≤ (t.size : Int) := by omega
  have HD1 := Lib.hid hD1
  clear hD1 ho1 hk1
  go_wp2_with fail
  refine (HN.out 8 _ HD1.out).mono ?_
  rintro e w2 ⟨y, rfl, hy0, hy1, hD2, ho2⟩
  have HD2 := Lib.hid hD2
  clear hD2 ho2
  by_cases y0 : y = 0
  · subst y0
    go_wp2
    refine bodyPost_ret (v := .string (t.extract 0 k)) (by simp [results, Tryd.results53, go_sem, *]) rfl ⟨_, rfl, by simp only [ByteArray.size_extract]; omega, HD2.out⟩
  by_cases y1 : y = 1
  · subst y1
    clear y0
    go_upto_region 6 with fail
    have hS : (fun _ : World => True) { w2 with drawn := w2.drawn + 1 } := trivial
    refine wp_region_any (by kernel_rfl) (wpAny_of_E (S := (fun _ : World => True)) (l := 13) _ _ _ _ ?_)
    change wpAnyE _ _ _ _ _ _ _ _ _ w2.drew
    refine wpAnyE_takeL (i := 0) (v := ?_) rfl (by kernel_rfl) (fun _ _ _ h => h) (Or.inl ⟨by rfl, ?_⟩) hS ?_
    rotate_left
    · intro w hSw; (try dsimp only at hSw); go_simp; (try with_reducible rfl)
    try simp only [Act.put, List.setIfInBounds_toArray, List.set_cons_zero, List.set_cons_succ]
    refine wpAnyE_takeL (i := 1) (v := ?_) rfl (by kernel_rfl) (fun _ _ _ h => h) (Or.inl ⟨by rfl, ?_⟩) hS ?_
    rotate_left
    · intro w hSw; (try dsimp only at hSw); go_simp; (try with_reducible rfl)
    try simp only [Act.put, List.setIfInBounds_toArray, List.set_cons_zero, List.set_cons_succ]
    refine wpAnyE_takeL (i := 2) (v := ?_) rfl (by kernel_rfl) (fun _ _ _ h => h) (Or.inl ⟨by rfl, ?_⟩) hS ?_
    rotate_left
    · intro w hSw; (try dsimp only at hSw); go_simp; (try with_reducible rfl)
    try simp only [Act.put, List.setIfInBounds_toArray, List.set_cons_zero, List.set_cons_succ]
    refine wpAnyE_takeL (i := 4) (v := ?_) rfl (by kernel_rfl) (fun _ _ _ h => h) (Or.inl ⟨by rfl, ?_⟩) hS ?_
    rotate_left
    · intro w hSw; (try dsimp only at hSw); go_simp; (try with_reducible rfl)
    try simp only [Act.put, List.setIfInBounds_toArray, List.set_cons_zero, List.set_cons_succ]
    refine wpAnyE_takeL (i := 9) (v := ?_) rfl (by kernel_rfl) (fun _ _ _ h => h) (Or.inl ⟨by rfl, ?_⟩) hS ?_
    rotate_left
    · intro w hSw; (try dsimp only at hSw); go_simp; (try with_reducible rfl)
    try simp only [Act.put, List.setIfInBounds_toArray, List.set_cons_zero, List.set_cons_succ]
    refine wpAnyE_takeL (i := 10) (v := ?_) rfl (by kernel_rfl) (fun _ _ _ h => h) (Or.inl ⟨by rfl, ?_⟩) hS ?_
    rotate_left
    · intro w hSw; (try dsimp only at hSw); go_simp; (try with_reducible rfl)
    try simp only [Act.put, List.setIfInBounds_toArray, List.set_cons_zero, List.set_cons_succ]
    refine wpAnyE_takeL (i := 11) (v := ?_) rfl (by kernel_rfl) (fun _ _ _ h => h) (Or.inl ⟨by rfl, ?_⟩) hS ?_
    rotate_left
    · intro w hSw; (try dsimp only at hSw); go_simp; (try with_reducible rfl)
    try simp only [Act.put, List.setIfInBounds_toArray, List.set_cons_zero, List.set_cons_succ]
    have HDd := Lib.hid (HD2.out.by (show Below w2.heap.size w2 w2.drew from (Below.refl _ w2).drew))
    generalize w2.drew = y0 at *
    refine wpAnyE_twoL (k := 3) (k' := 5) (by kernel_rfl) rfl rfl (fun K hK => ?_) (fun K hK => ?_)
    · go_simp
      have hal : Below y0.heap.size y0 (y0.alloc (.cells #[.string ⟨#[32]⟩, .string ⟨#[48]⟩, .string ⟨#[120]⟩, .string ⟨#[10]⟩, .string ⟨#[55]⟩] 9)) := (Below.refl _ y0).alloc (Nat.le_refl _) _
      have kS : Blk (y0.alloc (.cells #[.string ⟨#[32]⟩, .string ⟨#[48]⟩, .string ⟨#[120]⟩, .string ⟨#[10]⟩, .string ⟨#[55]⟩] 9)) y0.heap.size #[.string ⟨#[32]⟩, .string ⟨#[48]⟩, .string ⟨#[120]⟩, .string ⟨#[10]⟩, .string ⟨#[55]⟩] 9 := Blk.new _ rfl
      have HDd' := Lib.hid (HDd.out.by hal)
      have hgl := HDd.out.lt
      refine hK.out _ _ (fun _ => trivial) ?_
      try simp only [Act.put, List.setIfInBounds_toArray, List.set_cons_zero, List.set_cons_succ]
      clear hK hal
      generalize y0.alloc (.cells #[.string ⟨#[32]⟩, .string ⟨#[48]⟩, .string ⟨#[120]⟩, .string ⟨#[10]⟩, .string ⟨#[55]⟩] 9) = y1 at *
      generalize y0.heap.size = SB at *
      refine wpAnyE_oneL (k := 5) (by kernel_rfl) rfl (fun K hK => ?_)
      go_simp
      go_at_call 52
      refine (HN.out 5 _ HDd'.out).mono ?_
      rintro e y2 ⟨q, rfl, hq0, hq1, hD5, ho5⟩
      have hq5 : q < 5 := by omega
      have HD5 := Lib.hid hD5
      refine hK.out _ _ (fun _ => trivial) ?_
      try simp only [Act.put, List.setIfInBounds_toArray, List.set_cons_zero, List.set_cons_succ]
      clear hK hD5
      replace kS := ho5.within.blk kS (by omega)
      obtain ⟨u, hu, hus⟩ := five_at q hq0 hq5
      obtain ⟨j, rfl⟩ := Int.eq_ofNat_of_zero_le hq0
      rw [Int.toNat_natCast] at hu
      have qS : y2.cell? ⟨SB, j, none⟩ = some (.string u) := (kS.cell _).trans hu
      have lS := lt_of_cell qS
      dsimp only at lS
      have j5 : (j : Int) < 5 := hq5
      have hA : (t.extract 0 k).size ≤ 400000 := by simp only [ByteArray.size_extract]; omega
      have hC : (t.extract k t.size).size ≤ 400000 := by simp only [ByteArray.size_extract]; omega
      have ha1 := adds (t.extract 0 k) u (by omega)
      have ha2 := adds (t.extract 0 k ++ u) (t.extract k t.size) (by rw [ByteArray.size_append]; omega)
      unfold Adds at ha1 ha2
      clear hA hC
      refine wpAnyE_oneL (k := 6) (by kernel_rfl) rfl (fun K hK => ?_)
      go_simp
      refine hK.out _ _ (fun _ => trivial) ?_
      try simp only [Act.put, List.setIfInBounds_toArray, List.set_cons_zero, List.set_cons_succ]
      clear hK
      refine wpAnyE_oneL (k := 7) (by kernel_rfl) rfl (fun K hK => ?_)
      go_simp
      refine hK.out _ _ (fun _ => trivial) ?_
      try simp only [Act.put, List.setIfInBounds_toArray, List.set_cons_zero, List.set_cons_succ]
      clear hK
      refine wpAnyE_oneL (k := 8) (by kernel_rfl) rfl (fun K hK => ?_)
      go_simp
      refine hK.out _ _ (fun _ => trivial) ?_
      try simp only [Act.put, List.setIfInBounds_toArray, List.set_cons_zero, List.set_cons_succ]
      clear hK
      refine wpAnyE_oneL (k := 12) (by kernel_rfl) rfl (fun K hK => ?_)
      go_simp
      refine hK.out _ _ (fun _ => trivial) ?_
      try simp only [Act.put, List.setIfInBounds_toArray, List.set_cons_zero, List.set_cons_succ]
      clear hK
      refine wpAnyE_oneL (k := 13) (by kernel_rfl) rfl (fun K hK => ?_)
      go_simp
      refine hK.out _ _ (fun h => absurd rfl h) ?_
      refine wpAnyE_done (by kernel_rfl) ?_ _
      clear hS
      go_wp2
      refine bodyPost_ret (v := .string (t.extract 0 k ++ u ++ t.extract k t.size)) (by simp [results, Tryd.results53, go_sem, *]) rfl ⟨_, rfl, by simp only [ByteArray.size_append, ByteArray.size_extract]; omega, HD5.out⟩
    · go_simp
      go_at_call 52
      refine (HN.out 5 _ HDd.out).mono ?_
      rintro e y1 ⟨q, rfl, hq0, hq1, hD5, ho5⟩
      have hq5 : q < 5 := by omega
      have HD5 := Lib.hid hD5
      refine hK.out _ _ (fun _ => trivial) ?_
      try simp only [Act.put, List.setIfInBounds_toArray, List.set_cons_zero, List.set_cons_succ]
      clear hK hD5
      refine wpAnyE_oneL (k := 3) (by kernel_rfl) rfl (fun K hK => ?_)
      go_simp
      have hal : Below y1.heap.size y1 (y1.alloc (.cells #[.string ⟨#[32]⟩, .string ⟨#[48]⟩, .string ⟨#[120]⟩, .string ⟨#[10]⟩, .string ⟨#[55]⟩] 9)) := (Below.refl _ y1).alloc (Nat.le_refl _) _
      have kS : Blk (y1.alloc (.cells #[.string ⟨#[32]⟩, .string ⟨#[48]⟩, .string ⟨#[120]⟩, .string ⟨#[10]⟩, .string ⟨#[55]⟩] 9)) y1.heap.size #[.string ⟨#[32]⟩, .string ⟨#[48]⟩, .string ⟨#[120]⟩, .string ⟨#[10]⟩, .string ⟨#[55]⟩] 9 := Blk.new _ rfl
      have HD5' := Lib.hid (HD5.out.by hal)
      have hgl := HD5.out.lt
      refine hK.out _ _ (fun _ => trivial) ?_
      try simp only [Act.put, List.setIfInBounds_toArray, List.set_cons_zero, List.set_cons_succ]
      clear hK hal
      generalize y1.alloc (.cells #[.string ⟨#[32]⟩, .string ⟨#[48]⟩, .string ⟨#[120]⟩, .string ⟨#[10]⟩, .string ⟨#[55]⟩] 9) = y2 at *
      generalize y1.heap.size = SB at *
      obtain ⟨u, hu, hus⟩ := five_at q hq0 hq5
      obtain ⟨j, rfl⟩ := Int.eq_ofNat_of_zero_le hq0
      rw [Int.toNat_natCast] at hu
      have qS : y2.cell? ⟨SB, j, none⟩ = some (.string u) := (kS.cell _).trans hu
      have lS := lt_of_cell qS
      dsimp only at lS
      have j5 : (j : Int) < 5 := hq5
      have hA : (t.extract 0 k).size ≤ 400000 := by simp only [ByteArray.size_extract]; omega
      have hC : (t.extract k t.size).size ≤ 400000 := by simp only [ByteArray.size_extract]; omega
      have ha1 := adds (t.extract 0 k) u (by omega)
      have ha2 := adds (t.extract 0 k ++ u) (t.extract k t.size) (by rw [ByteArray.size_append]; omega)
      unfold Adds at ha1 ha2
      clear hA hC
      refine wpAnyE_oneL (k := 6) (by kernel_rfl) rfl (fun K hK => ?_)
      go_simp
      refine hK.out _ _ (fun _ => trivial) ?_
      try simp only [Act.put, List.setIfInBounds_toArray, List.set_cons_zero, List.set_cons_succ]
      clear hK
      refine wpAnyE_oneL (k := 7) (by kernel_rfl) rfl (fun K hK => ?_)
      go_simp
      refine hK.out _ _ (fun _ => trivial) ?_
      try simp only [Act.put, List.setIfInBounds_toArray, List.set_cons_zero, List.set_cons_succ]
      clear hK
      refine wpAnyE_oneL (k := 8) (by kernel_rfl) rfl (fun K hK => ?_)
      go_simp
      refine hK.out _ _ (fun _ => trivial) ?_
      try simp only [Act.put, List.setIfInBounds_toArray, List.set_cons_zero, List.set_cons_succ]
      clear hK
      refine wpAnyE_oneL (k := 12) (by kernel_rfl) rfl (fun K hK => ?_)
      go_simp
      refine hK.out _ _ (fun _ => trivial) ?_
      try simp only [Act.put, List.setIfInBounds_toArray, List.set_cons_zero, List.set_cons_succ]
      clear hK
      refine wpAnyE_oneL (k := 13) (by kernel_rfl) rfl (fun K hK => ?_)
      go_simp
      refine hK.out _ _ (fun h => absurd rfl h) ?_
      refine wpAnyE_done (by kernel_rfl) ?_ _
      clear hS
      go_wp2
      refine bodyPost_ret (v := .string (t.extract 0 k ++ u ++ t.extract k t.size)) (by simp [results, Tryd.results53, go_sem, *]) rfl ⟨_, rfl, by simp only [ByteArray.size_append, ByteArray.size_extract]; omega, HD5'.out⟩
  by_cases y2 : y = 2
  · subst y2
    by_cases hlt : k < t.size
    · have hlt2 : (k : Int) < (t.size : Int) := by omega
      have e2 : IntKind.i64.wrap ((k : Int) + 1) = (k : Int) + 1 := by simp [IntKind.wrap, IntKind.bits, IntKind.signed]; omega
      have e3 : (k : Int) + 1 ≤ (t.size : Int) := by omega
      have e4 : (0 : Int) ≤ (k : Int) + 1 := by omega
      have hA : (t.extract 0 k).size ≤ 400000 := by simp only [ByteArray.size_extract]; omega
      have hC : (t.extract (k + 1) t.size).size ≤ 400000 := by simp only [ByteArray.size_extract]; omega
      have ha1 := adds (t.extract 0 k) (t.extract (k + 1) t.size) (by omega)
      unfold Adds at ha1
      clear hA hC
      have HDF := Lib.hid (HD2.out.by (show Below w2.heap.size w2 w2.drew from (Below.refl _ w2).drew))
      go_wp2_with (go_region)
      all_goals
        refine bodyPost_ret (v := .string (t.extract 0 k ++ t.extract (k + 1) t.size)) (by simp [results, Tryd.results53, go_sem, *]) rfl ⟨_, rfl, by simp only [ByteArray.size_append, ByteArray.size_extract]; omega, HDF.out⟩
    · have hlt2 : ¬ (k : Int) < (t.size : Int) := by omega
      go_wp2
      refine bodyPost_ret (v := .string t) (by simp [results, Tryd.results53, go_sem, *]) rfl ⟨_, rfl, by omega, HD2.out⟩
  by_cases y3 : y = 3
  · subst y3
    go_wp2
    refine bodyPost_ret (v := .string (t ++ t)) (by simp [results, Tryd.results53, go_sem, *]) rfl ⟨_, rfl, by simp only [ByteArray.size_append]; omega, HD2.out⟩
  have z0 : (y == 0) = false := by simpa using y0
  have z1 : (y == 1) = false := by simpa using y1
  have z2 : (y == 2) = false := by simpa using y2
  have z3 : (y == 3) = false := by simpa using y3
  clear y0 y1 y2 y3
  go_wp2
  refine bodyPost_ret (v := .string t) (by simp [results, Tryd.results53, go_sem, *]) rfl ⟨_, rfl, by omega, HD2.out⟩
end Go.Proofs.YtglddnkpccgchaaDoor
