/- The draw of a matching; laws.sameInts at equal lists. -/
import Derived.Test.YtikpalfajfmdnaaDraw2
import Derived.Test.YtikpalfajfmdnaaMatch
namespace Go.Proofs.Ytikpalfajfmdnaa
open Go.RowKit
set_option linter.unusedVariables false
set_option linter.unusedSimpArgs false

set_option maxRecDepth 100000 in
set_option maxHeartbeats 1000000 in
theorem sameInts_refl (s1 s2 : Value) (zs : List Int) (w : World) (h : IntSl w s1 zs) (h' : IntSl w s2 zs) :
    Calls Try.prog 9 #[s1, s2] w fun e w' => e = .returned (.bool true) ∧ ∃ n, w' = w.drewN n := by
  have hlen := h.le
  by_cases h0 : zs = []
  · subst h0
    obtain ⟨a, c, rfl⟩ := h.len
    obtain ⟨a', c', rfl⟩ := h'.len
    go_enter Try.func9, Try.ntmps9
    go_wp2
    go_loopw [5] (fun i wr => i = .int .i64 0 ∧ wr = w) (fun _ _ => 0)
    case atStart => exact ⟨rfl, rfl⟩
    case round =>
      obtain ⟨rfl, rfl⟩ := hrel
      go_wp2
      go_ret
      exact ⟨rfl, 0, rfl⟩
  · rcases h with ⟨_, _, _, h2⟩ | ⟨b, off, cap, rfl, h2, h3, h4⟩
    · exact absurd h2 h0
    rcases h' with ⟨_, _, _, h2'⟩ | ⟨b', off', cap', rfl, h2', h3', h4'⟩
    · exact absurd h2' h0
    clear h0
    unfold maxLen at h3 h3'
    go_enter Try.func9, Try.ntmps9
    go_wp2
    go_loopw [5] (fun i wr => ∃ k n : Nat, k ≤ zs.length ∧ i = .int .i64 k ∧ wr = w.drewN n) (fun i _ => zs.length - (intOf i).toNat)
    case atStart => exact ⟨0, 0, Nat.zero_le _, rfl, rfl⟩
    case round =>
      obtain ⟨k, n, hk, rfl, rfl⟩ := hrel
      by_cases hlt : k < zs.length
      · obtain ⟨x, hx⟩ : ∃ x, zs[k]? = some x := ⟨zs[k], List.getElem?_eq_getElem hlt⟩
        have c1 := h4 k x hx
        have c2 := h4' k x hx
        clear h4 h4' hx
        have i1 : (0 : Int) ≤ (k : Int) := by omega
        have i2 : (k : Int) < (zs.length : Int) := by omega
        go_wp2
        go_quiet (fail)
        go_wp2
        exact ⟨⟨k + 1, _, by omega, by go_num, rfl⟩, by simp [intOf]; omega⟩
      · go_wp2
        go_ret
        exact ⟨rfl, n, rfl⟩
theorem IntSl.off2 {w : World} {v : Value} {zs : List Int} (h : IntSl w v zs) {R : Nat} {r1 r2 : Option Addr} {n3 n4 c3 c4 : Nat} {T : TypeId} (kR : Blk w R #[.slice r1 n3 c3, .slice r2 n4 c4] T) (y0 y1 : Value) :
    IntSl ((w.setCell ⟨R, 0, none⟩ y0).setCell ⟨R, 1, none⟩ y1) v zs := by
  rcases h with h | ⟨b, off, cap, h1, h2, h3, h4⟩
  · exact .inl h
  · refine .inr ⟨b, off, cap, h1, h2, h3, fun i x hx => ?_⟩
    have hc := h4 i x hx
    have hR : b ≠ R := fun e => by
      subst e
      rw [kR.cell] at hc
      match hk : off + i, hc with
      | 0, hc => simp [hk] at hc
      | 1, hc => simp [hk] at hc
      | k + 2, hc => simp [hk] at hc
    rw [← hc]
    simp only [World.cell?]
    rw [Below.heap_setCell _ ⟨R, 1, none⟩ _ b hR, Below.heap_setCell _ ⟨R, 0, none⟩ _ b hR]

set_option maxRecDepth 100000 in
set_option maxHeartbeats 2000000 in
theorem drawInv_any (v : Value) (n : Nat) (w : World) (h : Bytes w v n) (hn : n ≤ 4096) :
    Calls Try.prog 5 #[v] w fun e w' => ∃ u, e = .returned u ∧ ∃ z, MaV w' u z ∧ z.1.length ≤ 300 ∧ z.2.length ≤ 300 ∧ Below w.heap.size w w' := by
  have HB := Lib.hid h
  obtain ⟨w0, hw0⟩ : ∃ z, z = w.alloc (.cells #[.slice none 0 0, .slice none 0 0] 26) := ⟨_, rfl⟩
  have kR0 : Blk w0 w.heap.size #[.slice none 0 0, .slice none 0 0] 26 := by rw [hw0]; exact Blk.new _ rfl
  have hb0 : Below w.heap.size w w0 := by rw [hw0]; exact below_new w _
  have hs0 : w0.heap.size = w.heap.size + 1 := by rw [hw0]; simp
  have hf := l01From_any v n w0 (HB.out.by hb0) hn
  obtain ⟨G, hG⟩ : ∃ G, w0.heap.size = G := ⟨_, rfl⟩
  rw [hG] at hf hs0
  have HF := Lib.hid hf
  have HN := Lib.hid (fun m w h hm => l01Next_any w0 G v n m w h hm)
  have HO := Lib.hid (fun p q hp hq w h => l30DrawOrders_any w0 G v n p q hp hq w h)
  have hGw : w.heap.size < G := by omega
  have HG := Lib.hid hG
  clear h hf hs0 hG
  go_enter Try.func5, Try.ntmps5
  go_wp2_with fail
  (try rw [← hw0])
  clear hw0
  refine HF.out.mono ?_
  rintro e w1 ⟨rfl, hD1, hb1⟩
  have kR1 : Blk w1 w.heap.size _ 26 := Blk.by (by rw [HG.out]; exact hb1) kR0
  have HD1 := Lib.hid hD1
  clear hD1 hb1
  go_wp2_with fail
  refine (HN.out 6 _ HD1.out (by omega)).mono ?_
  rintro e w2 ⟨x, rfl, hx0, hx1, hD2, ho2⟩
  obtain ⟨p, rfl⟩ : ∃ p : Nat, x = p := ⟨x.toNat, by omega⟩
  have kR2 : Blk w2 w.heap.size _ 26 := ho2.blk kR1 (by omega)
  have HD2 := Lib.hid hD2
  clear hD2 ho2
  go_wp2_with fail
  refine (HN.out 6 _ HD2.out (by omega)).mono ?_
  rintro e w3 ⟨y, rfl, hy0, hy1, hD3, ho3⟩
  obtain ⟨q, rfl⟩ : ∃ q : Nat, y = q := ⟨y.toNat, by omega⟩
  have kR3 : Blk w3 w.heap.size _ 26 := ho3.blk kR2 (by omega)
  have HD3 := Lib.hid hD3
  clear hD3 ho3
  go_wp2_with fail
  refine (HO.out p q (by omega) (by omega) _ HD3.out).mono ?_
  rintro e w4 ⟨u, rfl, z, hV, hz1, hz2, hD4, hW4⟩
  have lR3 := kR3.lt
  have kR4 : Blk w4 w.heap.size _ 26 := hW4.blk kR3 (by omega)
  have hbw : Below w.heap.size w w4 := below_on hD4.2.1 hb0
  obtain ⟨s1, s2, rfl, i1, i2⟩ := hV
  have I1 := Lib.hid i1
  have I2 := Lib.hid i2
  obtain ⟨a1, c1, rfl⟩ := i1.len
  obtain ⟨a2, c2, rfl⟩ := i2.len
  obtain ⟨z1, z2⟩ := z
  dsimp only at hz1 hz2 I1 I2 ⊢
  have qR := kR4.cell
  have fR := kR4.free
  have lR := kR4.lt
  clear hD4 hW4 i1 i2
  go_wp2
  refine bodyPost_ret (v := .agg #[.slice a1 z1.length c1, .slice a2 z2.length c2]) (by simp [results, Try.results5, go_sem, *]) rfl ⟨_, rfl, (z1, z2), ⟨_, _, rfl, I1.out.off2 kR4 _ _, I2.out.off2 kR4 _ _⟩, hz1, hz2, (by ((repeat (first | (with_reducible exact Below.refl _ _) | (with_reducible refine below_drewN ?_ _) | (with_reducible refine Below.drew ?_) | (with_reducible refine below_al ?_ _) | (with_reducible refine below_on (by assumption) ?_) | ((with_reducible refine Below.setCell ?_ ?_ _); rotate_left; focus (first | omega | (simp; done) | (simp; omega))) | (with_reducible assumption))); done))⟩
end Go.Proofs.Ytikpalfajfmdnaa
