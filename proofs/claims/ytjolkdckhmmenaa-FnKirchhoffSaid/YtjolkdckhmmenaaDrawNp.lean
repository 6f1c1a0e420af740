/- The draw of a network and two nodes, under its second name. -/
import Derived.Test.YtjolkdckhmmenaaDrawEr
namespace Go.Proofs.Ytjolkdckhmmenaa
open Go.RowKit
set_option linter.unusedVariables false
set_option linter.unusedSimpArgs false

set_option maxRecDepth 100000 in
set_option maxHeartbeats 4000000 in
theorem drawNp_any (v0 : Value) (n : Nat) (w : World) (h : Bytes w v0 n) (hn : n ≤ 4096) :
    Calls Try.prog 11 #[v0] w fun e w' => ∃ (x : Nw) (rv : Value) (a b : Int), e = .returned (.tuple #[.agg #[.int .i64 x.nodes, rv], .int .i64 a, .int .i64 b]) ∧ Hid (ResSl w' rv x.rs) ∧ Hid ((0 ≤ x.nodes ∧ x.nodes ≤ 7) ∧ (0 < x.rs.length ∧ x.rs.length ≤ 16) ∧ ∀ r ∈ x.rs, r.ok) ∧ (0 ≤ a ∧ a ≤ 7) ∧ (-7 ≤ b ∧ b ≤ 7) ∧ Below w.heap.size w w' := by
  have HB := Lib.hid h
  have HDR := Lib.hid (fun w h => drawEr_own v0 n w h hn)
  have kR : Blk (w.alloc (.cells #[.int .i64 0, .slice none 0 0] 26)) w.heap.size #[.int .i64 0, .slice none 0 0] 26 := Blk.new _ rfl
  have hb0 : Below w.heap.size w (w.alloc (.cells #[.int .i64 0, .slice none 0 0] 26)) := (Below.refl _ w).alloc (Nat.le_refl _) _
  clear h
  go_enter Try.func11, Try.ntmps11
  go_wp2_with fail
  refine (HDR.out _ (HB.out.by hb0)).mono ?_
  rintro e w1 ⟨x, rv, a, b, rfl, HO, HX, hab, hbb, hb1⟩
  have hs0 : w.heap.size < (w.alloc (.cells #[.int .i64 0, .slice none 0 0] 26)).heap.size := by simp
  obtain ⟨hi, hO⟩ := HO.out
  obtain ⟨ar, cr, rfl⟩ := hO.sl.len
  have kR1 := Blk.by hb1 kR
  have hbb1 := below_on hb1 hb0
  have HO1 := Lib.hid ((((hO.past (Within.off (g := w.heap.size) (o := 0) (.int .i64 x.nodes)) (.inr (by omega))).past (Within.off (g := w.heap.size) (o := 1) (.slice ar x.rs.length cr)) (.inr (by omega))).sl))
  obtain ⟨N, hN⟩ : ∃ N, x.nodes = N := ⟨_, rfl⟩
  obtain ⟨L, hL⟩ : ∃ L, x.rs.length = L := ⟨_, rfl⟩
  rw [hN, hL] at HO1 ⊢
  have HN := Lib.hid hN
  have HL := Lib.hid hL
  have qR := kR1.cell
  have fR := kR1.free
  have lR := kR1.lt
  clear hO HO hN hL kR hb0 hb1 hs0
  go_wp2
  exact bodyPost_ret (v := .tuple #[.agg #[.int .i64 N, .slice ar L cr], .int .i64 a, .int .i64 b]) (by simp [results, Try.results11, go_sem, *]) rfl ⟨x, .slice ar L cr, a, b, by rw [HN.out], HO1, HX, hab, hbb, (hbb1.setCell (Nat.le_refl _) _).setCell (Nat.le_refl _) _⟩
end Go.Proofs.Ytjolkdckhmmenaa
