/- Contracts and plain laws, part 13, for the statement's proof. -/
import Derived.Test.YtehmiekendkjmaaGreatPkMtLaw12
import Derived.Deep.DeepCutAuto
import Derived.Deep.CutRange
import Derived.Deep.RegionHeld3
import Derived.BigRegion
namespace Go.Proofs.YtehmiekendkjmaaGreat
open Go.RowKit
set_option linter.unusedVariables false
set_option linter.unusedSimpArgs false
section
variable {P : Program} {ops : Array Oper} {Q : Exit → Act → World → Prop} {md : Region.Mode} {S : World → Prop} {l : Nat}
theorem tkL {i : Nat} {oi : Oper} {v : Value} {fuel : Nat} {listed : Array Bool} {a : Act} {w : World} (hi : ops.toList[i]? = some oi)
    (hk : (Region.noSelect ops && Region.free md ops listed i && (Region.ready md ops listed).contains i && headB md ops l listed && Region.sinkB md ops l && Region.chainB md ops l && decide (l < ops.size) && decide (i < l)) = true)
    (hQ : ∀ c a w, Q (.panic c) (a.put oi.dst v) w → Q (.panic c) a w) (hy : YieldsIf P ops S oi v a) (hS : S w)
    (h : wpAnyE P md ops Q S l fuel (listed.setIfInBounds i true) (a.put oi.dst v) w) : wpAnyE P md ops Q S l (fuel + 1) listed a w := wpAnyE_takeL hi hk hQ hy hS h
end
set_option maxRecDepth 100000 in
set_option maxHeartbeats 2000000 in
theorem l28FirstM_any (kind wd len : Int) (a : Option Addr) (k c : Nat) (hn : k ≤ 1048576) (w : World) : Calls Tryz.prog 31 #[.agg #[.int .i64 kind, .slice a (k + 2) c, .int .i64 wd, .int .i64 len]] w fun e w' => e = .returned (.int .i64 k) ∧ Below w.heap.size w w' := by
  go_enter Tryz.func31, Tryz.ntmps31
  go_wp2
  go_ret
  exact ⟨ret_i64 (by omega), blwT⟩
set_option maxRecDepth 100000 in
set_option maxHeartbeats 16000000 in
theorem l30DrawPair_any (W0 : World) (g : Nat) (sv : Value) (n : Nat) (w : World) (hD : Src1 W0 g sv n w) :
    Calls Tryz.prog 10 #[.pointer (some ⟨g, 0, none⟩)] w fun e w' => ∃ (v u t : Value), e = .returned (.tuple #[v, u, t]) ∧ MaSh t ∧ Hid (NlA w.heap.size w' v) ∧ Hid (NlA w.heap.size w' u) ∧ Below W0.heap.size W0 w' := by
  have HDN := Lib.hid (fun w h => l29DrawNetlist_any W0 g sv n w h)
  have HDZ := Lib.hid (fun w h => l27DrawNetlist_any W0 g sv n w h)
  have HN := Lib.hid (fun m w h hm => l01Next_any W0 g sv n m w h hm)
  have HDM := Lib.hid (fun nets a1 a2 L L2 c1 c2 h0 h1 hL w h => l30DrawMatching_any W0 g sv n nets a1 a2 L L2 c1 c2 h0 h1 hL w h)
  have HFI := Lib.hid (fun kind wd len a k c hn w => l28FirstM_any kind wd len a k c hn w)
  have hgl := hD.lt
  have hg0 : W0.heap.size ≤ g := hD.1
  obtain ⟨w0, hw0⟩ : ∃ z, z = ((w.alloc (.cells #[.int .i64 0, .slice none 0 0, .slice none 0 0] 27)).alloc (.cells #[.int .i64 0, .slice none 0 0, .slice none 0 0] 27)).alloc (.cells #[.slice none 0 0, .slice none 0 0] 32) := ⟨_, rfl⟩
  have HX0 : Bx3 w.heap.size w0 := by
    rw [hw0]
    exact ⟨((Blk.new _ rfl).past _).past _, (Blk.new _ (by simp)).past _, Blk.new _ (by simp)⟩
  have hb0 : Below w.heap.size w w0 := by rw [hw0]; exact (((Below.refl _ w).alloc (Nat.le_refl _) _).alloc (by simp) _).alloc (by simp; omega) _
  have hs0 : w.heap.size + 3 ≤ w0.heap.size := by rw [hw0]; simp
  have HD0 := Lib.hid (hD.by hb0)
  obtain ⟨G, hG⟩ : ∃ G, w.heap.size = G := ⟨_, rfl⟩
  rw [hG] at HX0 hs0 hgl ⊢
  have HBX0 := Lib.hid HX0
  clear hD hb0 HX0
  have HW0 := Lib.hid hw0
  have HGG := Lib.hid hG
  clear hw0 hG
  go_enter Tryz.func10, Tryz.ntmps10
  go_wp2_with fail
  (try rw [← HW0.out])
  (try simp only [World.size_alloc])
  (try rw [HGG.out])
  clear HW0 HGG
  refine (HDN.out _ HD0.out).mono ?_
  rintro e w1 ⟨v, x, rfl, HO, HS, HD1, HW1⟩
  obtain ⟨s1, s2, rfl, r1, r2⟩ := HO.out
  obtain ⟨a1, c1, rfl⟩ : ∃ a c, s1 = .slice a x.ds.length c := by obtain ⟨_, _, _, o⟩ := r1; exact o.sl.sized
  obtain ⟨a2, c2, rfl⟩ : ∃ a c, s2 = .slice a x.ps.length c := by obtain ⟨_, _, _, o⟩ := r2; exact o.sl.sized
  have HBX1 := Lib.hid (HBX0.out.past HW1.out (by omega))
  have hsz1 := HW1.out.size
  have HO1 := Lib.hid (HO.out.low (show G + 3 ≤ w0.heap.size by omega))
  obtain ⟨N, hN⟩ : ∃ N, x.nets = N := ⟨_, rfl⟩
  obtain ⟨L, hL⟩ : ∃ L, x.ds.length = L := ⟨_, rfl⟩
  obtain ⟨L2, hL2⟩ : ∃ L, x.ps.length = L := ⟨_, rfl⟩
  have hNb : -1 ≤ N ∧ N ≤ 25 ∧ L ≤ 10 ∧ L2 ≤ 100 := by have := HS.out; unfold Small at this; omega
  rw [hN, hL, hL2] at HO1 ⊢
  have HEQ := Lib.hid (And.intro hN (And.intro hL hL2))
  clear HO HW1 r1 r2 HBX0 HD0 hN hL hL2
  have hal : Below w1.heap.size w1 (w1.alloc (.cells #[.int .i64 N, .slice a1 L c1, .slice a2 L2 c2] 27)) := (Below.refl _ w1).alloc (Nat.le_refl _) _
  have kA2 : Blk (w1.alloc (.cells #[.int .i64 N, .slice a1 L c1, .slice a2 L2 c2] 27)) w1.heap.size #[.int .i64 N, .slice a1 L c1, .slice a2 L2 c2] 27 := Blk.new _ rfl
  have HBX2 := Lib.hid (HBX1.out.by hal)
  have HO2 := Lib.hid (HO1.out.by hal)
  have HD2 := Lib.hid (HD1.out.by hal)
  have hsz2 := hal.size
  have hAG : G + 3 ≤ w1.heap.size := by omega
  have qA := kA2.cell
  have lA := kA2.lt
  clear hal HBX1 HO1 HD1
  go_wp2_with fail
  generalize w1.alloc (.cells #[.int .i64 N, .slice a1 L c1, .slice a2 L2 c2] 27) = w2 at *
  generalize w1.heap.size = A at *
  refine (HDM.out N a1 a2 L L2 c1 c2 (by omega) (by omega) (by omega) _ HD2.out).mono ?_
  rintro e w3 ⟨u1, u2, z1, z2, rfl, hz1, hz2, hO1, hO2, hD3, hW3⟩
  obtain ⟨b1, d1, rfl⟩ := hO1.sl.len
  obtain ⟨b2, d2, rfl⟩ := hO2.sl.len
  have HM3 : Hid (MaV w3 (.agg #[.slice b1 z1.length d1, .slice b2 z2.length d2]) (z1, z2)) := Lib.hid ⟨_, _, rfl, hO1.sl, hO2.sl⟩
  have kA3 := hW3.blk kA2 (by omega)
  have HBX3 := Lib.hid (HBX2.out.past hW3 (by omega))
  have HO3 := Lib.hid (HO2.out.past hW3 (by omega))
  have HD3 := Lib.hid hD3
  have hsz3 := hW3.size
  obtain ⟨z, hz⟩ : ∃ z, z = (z1, z2) := ⟨_, rfl⟩
  rw [← hz] at HM3
  obtain ⟨p, hp⟩ : ∃ p, z1.length = p := ⟨_, rfl⟩
  obtain ⟨q, hq⟩ : ∃ q, z2.length = q := ⟨_, rfl⟩
  have hzl : z.1.length ≤ 1048576 ∧ z.2.length ≤ 1048576 := by rw [hz]; exact ⟨by dsimp only; omega, by dsimp only; omega⟩
  rw [hp, hq] at HM3 ⊢
  clear hO1 hO2 hD3 hW3 kA2 HBX2 HO2 HD2 qA lA hz hp hq hz1 hz2
  have hal : Below w3.heap.size w3 (w3.alloc (.cells #[.slice b1 p d1, .slice b2 q d2] 32)) := (Below.refl _ w3).alloc (Nat.le_refl _) _
  have kM4 : Blk (w3.alloc (.cells #[.slice b1 p d1, .slice b2 q d2] 32)) w3.heap.size #[.slice b1 p d1, .slice b2 q d2] 32 := Blk.new _ rfl
  have kA4 := Blk.by hal kA3
  have HBX4 := Lib.hid (HBX3.out.by hal)
  have HO4 := Lib.hid (HO3.out.by hal)
  have HM4 := Lib.hid (HM3.out.by hal)
  have HD4 := Lib.hid (HD3.out.by hal)
  have hsz4 := hal.size
  have hMG : G + 3 ≤ w3.heap.size := by omega
  have hok : ∀ p ∈ x.ps, p.ok := HS.out.2.2.2.2
  have hfit : Fits x.nets := HS.out.fits
  have HSA := Lib.hid (fun v u w h hm => specApply_any x z v u w h hm hok hfit hzl.1 hzl.2)
  have HAN : Hid (NlA (G + 3) (w3.alloc (.cells #[.slice b1 p d1, .slice b2 q d2] 32)) (.agg #[.int .i64 N, .slice a1 L c1, .slice a2 L2 c2])) := Lib.hid ⟨x, HO4.out, hok, hfit⟩
  have HSM := Lib.hid (fun hx h1 h2 => ap_some (x := x) (z := z) hx h1 h2 hok)
  have qA := kA4.cell
  have lA := kA4.lt
  have qM := kM4.cell
  have lM := kM4.lt
  clear hal kA3 HBX3 HO3 HM3 HD3 hok hfit hzl
  go_wp2_with fail
  generalize w3.alloc (.cells #[.slice b1 p d1, .slice b2 q d2] 32) = w4 at *
  generalize w3.heap.size = M at *
  refine (HSA.out _ _ w4 HO4.out.nl HM4.out).mono ?_
  rintro e w5 ⟨v', rfl, hO5, hb5⟩
  obtain ⟨a3, c3, a4, c4, rfl⟩ := hO5.nl.sized
  have HD5 := Lib.hid (HD4.out.by hb5)
  clear HSA HM4
  have hgw4 := HD4.out.lt
  by_cases hc : nlB x = true ∧ permB z.1 x.nets = true ∧ permB z.2 (x.ds.length : Int) = true
  · obtain ⟨e0, hNY, hL3, hL4, hdp, hpo⟩ := HSM.out hc.1 hc.2.1 hc.2.2
    have HE6 := Lib.hid (PrE.ofX (lo := 0) hO5 HD5.out hb5 hdp hpo)
    obtain ⟨NY, eN⟩ : ∃ N, (apR x z).nets = N := ⟨_, rfl⟩
    obtain ⟨L3, eL3⟩ : ∃ L, (apR x z).ds.length = L := ⟨_, rfl⟩
    obtain ⟨L4, eL4⟩ : ∃ L, (apR x z).ps.length = L := ⟨_, rfl⟩
    rw [eN, eL3, eL4] at HE6 ⊢
    rw [eN] at hNY
    rw [eL3] at hL3
    rw [eL4] at hL4
    rw [e0]
    have hB5 := hb5.size
    clear e0 hdp hpo hO5 eN eL3 eL4 HSM hc HD5 HDZ HD4 hb5 HO4 HDM HDN HEQ HS
    have qB := HE6.out.b.cell
    have lB := HE6.out.b.lt
    go_wp2_with fail
    clear qA lA qM lM qB lB
    generalize w5.alloc (.cells #[.int .i64 NY, .slice a3 L3 c3, .slice a4 L4 c4] 27) = w6 at *
    generalize w5.heap.size = B at *
    clear w5
    go_loopw [9] (fun zz wr => ∃ k : Nat, zz = .int .i64 (k : Int) ∧ k ≤ L3 ∧ Hid (PrE W0 w4 g n sv B B NY (.slice a3 L3 c3) (.slice a4 L4 c4) L3 L4 wr)) (fun zz _ => ((L3 : Int) - intOf zz).toNat)
    case atStart => exact ⟨0, by go_num, by omega, HE6⟩
    case round =>
      clear HE6
      obtain ⟨k, rfl, hkL, HP⟩ := hrel
      have qB := HP.out.b.cell
      have lB := HP.out.b.lt
      by_cases hlt : k < L3
      · have hlt' : (k : Int) < (L3 : Int) := by omega
        have wk1 : IntKind.i64.wrap ((k : Int) + 1) = (k : Int) + 1 := by simp [IntKind.wrap, IntKind.bits, IntKind.signed]; omega
        obtain ⟨b, f, j, cap, kind, wd, len, cs, cs', rfl, ⟨hbb, hff, hfb, hj⟩, kb, kf, r0, r1, r2, r3, rj⟩ := HP.out.ds.row hlt
        obtain ⟨p0, hp0⟩ := rj j (by omega)
        obtain ⟨p1, hp1⟩ := rj (j + 1) (by omega)
        have lb := kb.lt
        have lf := kf.lt
        clear rj
        go_wp2_with fail
        refine (HFI.out kind wd len _ j cap (by omega) _).mono ?_
        rintro e w7 ⟨rfl, hb7⟩
        have HP7 := Lib.hid (HP.out.by hb7)
        have r17 := cell_by' hb7 r1
        have p07 := cell_by' hb7 hp0
        have p17 := cell_by' hb7 hp1
        have kb7 := Blk.by hb7 kb
        have kf7 := Blk.by hb7 kf
        clear qB lB r0 r1 r2 r3 hp0 hp1 kb kf lb lf HP hb7
        go_wp2_with fail
        refine (HN.out 3 _ HP7.out.src (by omega)).mono ?_
        rintro e w8 ⟨y, rfl, hy0, hy1, hD8, ho8⟩
        have HP8 := Lib.hid (HP7.out.only ho8 hD8 hgw4 hB5)
        have hgb : b ≠ g := by omega
        have hgf : f ≠ g := by omega
        have r18 := ho8.within.cellM r17 (by omega)
        have p08 := ho8.within.cellM p07 (by omega)
        have p18 := ho8.within.cellM p17 (by omega)
        have kb8 := ho8.within.blk kb7 (by omega)
        have kf8 := ho8.within.blk kf7 (by omega)
        have qB := HP8.out.b.cell
        have lB := HP8.out.b.lt
        have lb := kb8.lt
        have lf := kf8.lt
        have ff := kf8.free
        have hfB : ¬ f = B := fun e => by subst e; exact absurd (kf8.differ2 HP8.out.b) (by decide)
        have hBf : ¬ B = f := fun e => hfB e.symm
        have hbf : ¬ b = f := fun e => hfb e.symm
        clear HP7 hD8 ho8 r17 p07 p17 kb7 kf7
        by_cases hy : y = 0
        · subst hy
          have hw1 : IntKind.i64.wrap ((j : Int) + 1) = (j : Int) + 1 := by simp [IntKind.wrap, IntKind.bits, IntKind.signed]; omega
          have hj1 : ((j : Int) + 1).toNat = j + 1 := by omega
          have hj2 : (0 : Int) ≤ (j : Int) + 1 := by omega
          have hj3 : (j : Int) + 1 < (j : Int) + 2 := by omega
          have hj4 : (j : Int) < (j : Int) + 2 := by omega
          have hj5 : j < j + 2 := by omega
          have hj6 : j + 1 < j + 2 := by omega
          have hj7 : ¬ j + 1 = j := by omega
          have hj8 : ¬ j = j + 1 := by omega
          clear hj
          go_upto_region 12 with fail
          clear qB lB
          have hS : (fun w' : World => Blk w' B #[.int .i64 NY, .slice (some ⟨b, 0, none⟩) L3 c3, .slice a4 L4 c4] 27 ∧ w'.cell? ⟨b, k * 4 + 1, none⟩ = some (.slice (some ⟨f, 0, none⟩) (j + 2) cap) ∧ w'.cell? ⟨f, j + 1, none⟩ = some (.int .i64 p1)) { w8 with drawn := w8.drawn + 1 } := ⟨HP8.out.b, r18, p18⟩
          refine wp_region_any (by kernel_rfl) (wpAny_of_E (S := fun w' : World => Blk w' B #[.int .i64 NY, .slice (some ⟨b, 0, none⟩) L3 c3, .slice a4 L4 c4] 27 ∧ w'.cell? ⟨b, k * 4 + 1, none⟩ = some (.slice (some ⟨f, 0, none⟩) (j + 2) cap) ∧ w'.cell? ⟨f, j + 1, none⟩ = some (.int .i64 p1)) (l := 18) _ _ _ _ ?_)
          change wpAnyE _ _ _ _ _ _ _ _ _ w8.drew
          refine tkL (i := 0) (v := ?_) rfl (by kernel_rfl) (fun _ _ _ h => h) (.inl ⟨by rfl, ?_⟩) hS ?_
          rotate_left
          · intro w hSw; (try dsimp only at hSw); obtain ⟨hSa, hSb, hSc⟩ := hSw; have qB := hSa.cell; have lB := hSa.lt; go_simp; (try with_reducible rfl)
          refine tkL (i := 1) (v := ?_) rfl (by kernel_rfl) (fun _ _ _ h => h) (.inl ⟨by rfl, ?_⟩) hS ?_
          rotate_left
          · intro w hSw; (try dsimp only at hSw); obtain ⟨hSa, hSb, hSc⟩ := hSw; have qB := hSa.cell; have lB := hSa.lt; go_simp; (try with_reducible rfl)
          refine tkL (i := 2) (v := ?_) rfl (by kernel_rfl) (fun _ _ _ h => h) (.inl ⟨by rfl, ?_⟩) hS ?_
          rotate_left
          · intro w hSw; (try dsimp only at hSw); obtain ⟨hSa, hSb, hSc⟩ := hSw; have qB := hSa.cell; have lB := hSa.lt; go_simp; (try with_reducible rfl)
          refine tkL (i := 3) (v := ?_) rfl (by kernel_rfl) (fun _ _ _ h => h) (.inl ⟨by rfl, ?_⟩) hS ?_
          rotate_left
          · intro w hSw; (try dsimp only at hSw); obtain ⟨hSa, hSb, hSc⟩ := hSw; have qB := hSa.cell; have lB := hSa.lt; go_simp; (try with_reducible rfl)
          refine tkL (i := 4) (v := ?_) rfl (by kernel_rfl) (fun _ _ _ h => h) (.inl ⟨by rfl, ?_⟩) hS ?_
          rotate_left
          · intro w hSw; (try dsimp only at hSw); obtain ⟨hSa, hSb, hSc⟩ := hSw; have qB := hSa.cell; have lB := hSa.lt; go_simp; (try with_reducible rfl)
          refine tkL (i := 5) (v := ?_) rfl (by kernel_rfl) (fun _ _ _ h => h) (.inl ⟨by rfl, ?_⟩) hS ?_
          rotate_left
          · intro w hSw; (try dsimp only at hSw); obtain ⟨hSa, hSb, hSc⟩ := hSw; have qB := hSa.cell; have lB := hSa.lt; go_simp; (try with_reducible rfl)
          refine tkL (i := 6) (v := ?_) rfl (by kernel_rfl) (fun _ _ _ h => h) (.inl ⟨by rfl, ?_⟩) hS ?_
          rotate_left
          · intro w hSw; (try dsimp only at hSw); obtain ⟨hSa, hSb, hSc⟩ := hSw; have qB := hSa.cell; have lB := hSa.lt; go_simp; (try with_reducible rfl)
          refine tkL (i := 7) (v := ?_) rfl (by kernel_rfl) (fun _ _ _ h => h) (.inl ⟨by rfl, ?_⟩) hS ?_
          rotate_left
          · intro w hSw; (try dsimp only at hSw); obtain ⟨hSa, hSb, hSc⟩ := hSw; have qB := hSa.cell; have lB := hSa.lt; go_simp; (try with_reducible rfl)
          refine tkL (i := 8) (v := ?_) rfl (by kernel_rfl) (fun _ _ _ h => h) (.inl ⟨by rfl, ?_⟩) hS ?_
          rotate_left
          · intro w hSw; (try dsimp only at hSw); obtain ⟨hSa, hSb, hSc⟩ := hSw; have qB := hSa.cell; have lB := hSa.lt; go_simp; (try with_reducible rfl)
          refine tkL (i := 9) (v := ?_) rfl (by kernel_rfl) (fun _ _ _ h => h) (.inl ⟨by rfl, ?_⟩) hS ?_
          rotate_left
          · intro w hSw; (try dsimp only at hSw); obtain ⟨hSa, hSb, hSc⟩ := hSw; have qB := hSa.cell; have lB := hSa.lt; go_simp; (try with_reducible rfl)
          refine tkL (i := 10) (v := ?_) rfl (by kernel_rfl) (fun _ _ _ h => h) (.inl ⟨by rfl, ?_⟩) hS ?_
          rotate_left
          · intro w hSw; (try dsimp only at hSw); obtain ⟨hSa, hSb, hSc⟩ := hSw; have qB := hSa.cell; have lB := hSa.lt; go_simp; (try with_reducible rfl)
          refine tkL (i := 11) (v := ?_) rfl (by kernel_rfl) (fun _ _ _ h => h) (.inl ⟨by rfl, ?_⟩) hS ?_
          rotate_left
          · intro w hSw; (try dsimp only at hSw); obtain ⟨hSa, hSb, hSc⟩ := hSw; have qB := hSa.cell; have lB := hSa.lt; go_simp; (try with_reducible rfl)
          refine tkL (i := 12) (v := ?_) rfl (by kernel_rfl) (fun _ _ _ h => h) (.inl ⟨by rfl, ?_⟩) hS ?_
          rotate_left
          · intro w hSw; (try dsimp only at hSw); obtain ⟨hSa, hSb, hSc⟩ := hSw; have qB := hSa.cell; have lB := hSa.lt; go_simp; (try with_reducible rfl)
          refine tkL (i := 13) (v := ?_) rfl (by kernel_rfl) (fun _ _ _ h => h) (.inl ⟨by rfl, ?_⟩) hS ?_
          rotate_left
          · intro w hSw; (try dsimp only at hSw); obtain ⟨hSa, hSb, hSc⟩ := hSw; have qB := hSa.cell; have lB := hSa.lt; go_simp; (try with_reducible rfl)
          refine tkL (i := 14) (v := ?_) rfl (by kernel_rfl) (fun _ _ _ h => h) (.inl ⟨by rfl, ?_⟩) hS ?_
          rotate_left
          · intro w hSw; (try dsimp only at hSw); obtain ⟨hSa, hSb, hSc⟩ := hSw; have qB := hSa.cell; have lB := hSa.lt; go_simp; (try with_reducible rfl)
          refine tkL (i := 15) (v := ?_) rfl (by kernel_rfl) (fun _ _ _ h => h) (.inl ⟨by rfl, ?_⟩) hS ?_
          rotate_left
          · intro w hSw; (try dsimp only at hSw); obtain ⟨hSa, hSb, hSc⟩ := hSw; have qB := hSa.cell; have lB := hSa.lt; go_simp; (try with_reducible rfl)
          refine tkL (i := 16) (v := ?_) rfl (by kernel_rfl) (fun _ _ _ h => h) (.inl ⟨by rfl, ?_⟩) hS ?_
          rotate_left
          · intro w hSw; (try dsimp only at hSw); obtain ⟨hSa, hSb, hSc⟩ := hSw; have qB := hSa.cell; have lB := hSa.lt; go_simp; (try with_reducible rfl)
          refine tkL (i := 17) (v := ?_) rfl (by kernel_rfl) (fun _ _ _ h => h) (.inl ⟨by rfl, ?_⟩) hS ?_
          rotate_left
          · intro w hSw; (try dsimp only at hSw); obtain ⟨hSa, hSb, hSc⟩ := hSw; have qB := hSa.cell; have lB := hSa.lt; go_simp; (try with_reducible rfl)
          try simp only [Act.put, List.setIfInBounds_toArray, List.set_cons_zero, List.set_cons_succ]
          have kf9 : Blk w8.drew f cs' 2 := kf8
          have HP9 := Lib.hid (HP8.out.by (Below.drew (Below.refl _ w8)))
          have p09 : w8.drew.cell? ⟨f, j, none⟩ = some (.int .i64 p0) := p08
          have p19 : w8.drew.cell? ⟨f, j + 1, none⟩ = some (.int .i64 p1) := p18
          have r19 : w8.drew.cell? ⟨b, k * 4 + 1, none⟩ = some (.slice (some ⟨f, 0, none⟩) (j + 2) cap) := r18
          have k1 : Blk (w8.drew.setCell ⟨f, j, none⟩ (.int .i64 p1)) f _ 2 := kf9.set j (.int .i64 p1)
          have HPS := Lib.hid ((HP9.out.setI (j := j) (v := p1) kf9 hgw4 hg0 hff.1).setI (j := j + 1) (v := p0) k1 hgw4 hg0 hff.1)
          have qB := HP9.out.b.cell
          have lB := HP9.out.b.lt
          have lf := kf9.lt
          have ff := kf9.free
          clear k1 hy0 hy1 hS r18 p08 p18 kf8 HP8 kf9 HP9 kb8
          generalize w8.drew = w9 at *
          refine wpAnyE_oneL (k := 18) (by kernel_rfl) rfl (fun K hK => ?_)
          go_simp
          refine hK.out _ _ (fun h => absurd rfl h) ?_
          refine wpAnyE_done (by kernel_rfl) ?_ _
          go_wp2
          exact ⟨⟨k + 1, by go_num, by omega, HPS⟩, by simp [intOf]; omega⟩
        · have hy' : (y == 0) = false := by simpa using hy
          clear hy hy0 hy1
          go_wp2
          exact ⟨⟨k + 1, by go_num, by omega, HP8⟩, by simp [intOf]; omega⟩
      · have hlt' : ¬ (k : Int) < (L3 : Int) := by omega
        obtain rfl : k = L3 := by omega
        go_wp2_with fail
        clear qB lB
        refine (HN.out 2 _ HP.out.src (by omega)).mono ?_
        rintro e w7 ⟨y, rfl, hy0, hy1, hD7, ho7⟩
        have HP7 := Lib.hid (HP.out.only ho7 hD7 hgw4 hB5)
        clear HP hD7 ho7
        by_cases hy : y = 0
        · subst hy
          have HF := Lib.hid (HP7.out.fin kA4 kM4 HBX4.out HAN.out hgl hAG hMG (by omega) ⟨by omega, by omega⟩)
          clear HP7 hy0 hy1
          go_upto_region 15 with fail
          have HO := Lib.hid HF.out.outs
          have hS := HO.out.2.2.2.1
          refine wp_region_any (by kernel_rfl) (wpAny_of_E (S := Tri A B M #[.int .i64 N, .slice a1 L c1, .slice a2 L2 c2] #[.int .i64 NY, .slice a3 k c3, .slice a4 L4 c4] #[.slice b1 p d1, .slice b2 q d2]) (l := 5) _ _ _ _ ?_)
          change wpAnyE _ _ _ _ _ _ _ _ _ w7.drew
          refine tkL (i := 0) (v := ?_) rfl (by kernel_rfl) (fun _ _ _ h => h) (.inl ⟨by rfl, ?_⟩) hS ?_
          rotate_left
          · intro w hSw; obtain ⟨qA, qB, qM, lA, lB, lM⟩ := hSw.facts; go_simp; (try with_reducible rfl)
          refine tkL (i := 1) (v := ?_) rfl (by kernel_rfl) (fun _ _ _ h => h) (.inl ⟨by rfl, ?_⟩) hS ?_
          rotate_left
          · intro w hSw; obtain ⟨qA, qB, qM, lA, lB, lM⟩ := hSw.facts; go_simp; (try with_reducible rfl)
          refine tkL (i := 2) (v := ?_) rfl (by kernel_rfl) (fun _ _ _ h => h) (.inl ⟨by rfl, ?_⟩) hS ?_
          rotate_left
          · intro w hSw; obtain ⟨qA, qB, qM, lA, lB, lM⟩ := hSw.facts; go_simp; (try with_reducible rfl)
          try simp only [Act.put, List.setIfInBounds_toArray, List.set_cons_zero, List.set_cons_succ]
          obtain ⟨⟨q2, f2, l2⟩, ⟨q3, f3, l3⟩, q4, f4, l4⟩ := HO.out.2.2.2.2.facts
          generalize w7.drew = wz at *
          refine wpAnyE_oneL (k := 3) (by kernel_rfl) rfl (fun K hK => ?_)
          go_simp
          refine hK.out _ _ (fun h => hS.off3 ⟨by omega, by omega, by omega⟩) ?_
          try simp only [Act.put, List.setIfInBounds_toArray, List.set_cons_zero, List.set_cons_succ]
          refine wpAnyE_oneL (k := 4) (by kernel_rfl) rfl (fun K hK => ?_)
          go_simp
          refine hK.out _ _ (fun h => (hS.off3 ⟨by omega, by omega, by omega⟩).off3 ⟨by omega, by omega, by omega⟩) ?_
          try simp only [Act.put, List.setIfInBounds_toArray, List.set_cons_zero, List.set_cons_succ]
          refine wpAnyE_oneL (k := 5) (by kernel_rfl) rfl (fun K hK => ?_)
          go_simp
          refine hK.out _ _ (fun h => absurd rfl h) ?_
          refine wpAnyE_done (by kernel_rfl) ?_ _
          go_wp2
          refine bodyPost_ret (v := .tuple #[.agg #[.int .i64 N, .slice a1 L c1, .slice a2 L2 c2], .agg #[.int .i64 NY, .slice a3 k c3, .slice a4 L4 c4], .agg #[.slice b1 p d1, .slice b2 q d2]]) (by simp [results, Tryz.results10, go_sem, *]) rfl ⟨_, _, _, rfl, ⟨_, _, _, _, _, _, rfl⟩, Lib.hid (HO.out.1.off8 ⟨by omega, by omega, by omega, by omega⟩), Lib.hid (HO.out.2.1.off8 ⟨by omega, by omega, by omega, by omega⟩), below_off8 HO.out.2.2.1 ⟨by omega, by omega, by omega⟩⟩
        · have hy' : (y == 0) = false := by simpa using hy
          have qB := HP7.out.b.cell
          have lB := HP7.out.b.lt
          clear hy hy0 hy1
          go_upto_region 16 with fail
          go_cut [12] (fun s wx => ∃ q : Nat, s = .int .i64 (q : Int) ∧ (0 < k → q < k) ∧ Hid (PrE W0 w4 g n sv B B NY (.slice a3 k c3) (.slice a4 L4 c4) k L4 wx))
          case first =>
            go_wp2_with fail
            all_goals
              refine (HN.out _ _ HP7.out.src (by omega)).mono ?_
              rintro e w8 ⟨qq, rfl, hq0, hq1, hD8, ho8⟩
              obtain ⟨Q, rfl⟩ : ∃ Q : Nat, qq = Q := ⟨qq.toNat, by omega⟩
              go_wp2
              go_meet
              exact ⟨Q, rfl, by omega, Lib.hid (HP7.out.only ho8 hD8 hgw4 hB5)⟩
          case rest =>
            obtain ⟨r, rfl, hr, HP8⟩ := hcut
            clear HP7 qB lB
            go_wp2_with fail
            refine (HN.out 7 _ HP8.out.src (by omega)).mono ?_
            rintro e w9 ⟨y, rfl, hy0, hy1, hD9, ho9⟩
            have HP9 := Lib.hid (HP8.out.only ho9 hD9 hgw4 hB5)
            clear HP8 hD9 ho9
            have hsw : y = 0 ∨ y = 1 ∨ y = 2 ∨ y = 3 ∨ y = 4 ∨ y = 5 ∨ y = 6 := by omega
            have qB := HP9.out.b.cell
            have lB := HP9.out.b.lt
            have fB := HP9.out.b.free
            clear hy0 hy1
            rcases hsw with rfl | rfl | rfl | rfl | rfl | rfl | rfl
            · have hwN : IntKind.i64.wrap (NY + 1) = NY + 1 := by simp [IntKind.wrap, IntKind.bits, IntKind.signed]; omega
              have HPS := Lib.hid (HP9.out.setN (v := NY + 1) hgw4 hg0 hB5)
              have HF := Lib.hid (HPS.out.fin kA4 kM4 HBX4.out HAN.out hgl hAG hMG (by omega) ⟨by omega, by omega⟩)
              go_upto_region 37 with fail
              generalize w9.setCell ⟨B, 0, none⟩ (.int .i64 (NY + 1)) = wE at *
              have HO := Lib.hid HF.out.outs
              have hS := HO.out.2.2.2.1
              refine wp_region_any (by kernel_rfl) (wpAny_of_E (S := Tri A B M #[.int .i64 N, .slice a1 L c1, .slice a2 L2 c2] #[.int .i64 (NY + 1), .slice a3 k c3, .slice a4 L4 c4] #[.slice b1 p d1, .slice b2 q d2]) (l := 5) _ _ _ _ ?_)
              change wpAnyE _ _ _ _ _ _ _ _ _ wE.drew
              refine tkL (i := 0) (v := ?_) rfl (by kernel_rfl) (fun _ _ _ h => h) (.inl ⟨by rfl, ?_⟩) hS ?_
              rotate_left
              · intro w hSw; obtain ⟨qA, qB, qM, lA, lB, lM⟩ := hSw.facts; go_simp; (try with_reducible rfl)
              refine tkL (i := 1) (v := ?_) rfl (by kernel_rfl) (fun _ _ _ h => h) (.inl ⟨by rfl, ?_⟩) hS ?_
              rotate_left
              · intro w hSw; obtain ⟨qA, qB, qM, lA, lB, lM⟩ := hSw.facts; go_simp; (try with_reducible rfl)
              refine tkL (i := 2) (v := ?_) rfl (by kernel_rfl) (fun _ _ _ h => h) (.inl ⟨by rfl, ?_⟩) hS ?_
              rotate_left
              · intro w hSw; obtain ⟨qA, qB, qM, lA, lB, lM⟩ := hSw.facts; go_simp; (try with_reducible rfl)
              try simp only [Act.put, List.setIfInBounds_toArray, List.set_cons_zero, List.set_cons_succ]
              obtain ⟨⟨q2, f2, l2⟩, ⟨q3, f3, l3⟩, q4, f4, l4⟩ := HO.out.2.2.2.2.facts
              generalize wE.drew = wz at *
              refine wpAnyE_oneL (k := 3) (by kernel_rfl) rfl (fun K hK => ?_)
              go_simp
              refine hK.out _ _ (fun h => hS.off3 ⟨by omega, by omega, by omega⟩) ?_
              try simp only [Act.put, List.setIfInBounds_toArray, List.set_cons_zero, List.set_cons_succ]
              refine wpAnyE_oneL (k := 4) (by kernel_rfl) rfl (fun K hK => ?_)
              go_simp
              refine hK.out _ _ (fun h => (hS.off3 ⟨by omega, by omega, by omega⟩).off3 ⟨by omega, by omega, by omega⟩) ?_
              try simp only [Act.put, List.setIfInBounds_toArray, List.set_cons_zero, List.set_cons_succ]
              refine wpAnyE_oneL (k := 5) (by kernel_rfl) rfl (fun K hK => ?_)
              go_simp
              refine hK.out _ _ (fun h => absurd rfl h) ?_
              refine wpAnyE_done (by kernel_rfl) ?_ _
              go_wp2
              refine bodyPost_ret (v := .tuple #[.agg #[.int .i64 N, .slice a1 L c1, .slice a2 L2 c2], .agg #[.int .i64 (NY + 1), .slice a3 k c3, .slice a4 L4 c4], .agg #[.slice b1 p d1, .slice b2 q d2]]) (by simp [results, Tryz.results10, go_sem, *]) rfl ⟨_, _, _, rfl, ⟨_, _, _, _, _, _, rfl⟩, Lib.hid (HO.out.1.off8 ⟨by omega, by omega, by omega, by omega⟩), Lib.hid (HO.out.2.1.off8 ⟨by omega, by omega, by omega, by omega⟩), below_off8 HO.out.2.2.1 ⟨by omega, by omega, by omega⟩⟩
            · have hwN : ((k : Int)).tdiv 2 = ((k / 2 : Nat) : Int) := (Int.ofNat_tdiv k 2).symm
              have hwN2 : IntKind.i64.wrap (((k / 2 : Nat) : Int)) = ((k / 2 : Nat) : Int) := by simp [IntKind.wrap, IntKind.bits, IntKind.signed]; omega
              have hk2 : k / 2 ≤ k := by omega
              have hcp := HP9.out.ds.cap
              have hc1 : (k : Int) / 2 ≤ (c3 : Int) := by omega
              have hc2 : (0 : Int) ≤ (k : Int) / 2 := by omega
              have hc3 : ((k : Int) / 2).toNat = k / 2 := by omega
              clear hcp
              have HPS := Lib.hid (HP9.out.setD (m := k / 2) hk2 hgw4 hg0 hB5)
              have HF := Lib.hid (HPS.out.fin kA4 kM4 HBX4.out HAN.out hgl hAG hMG (by omega) ⟨by omega, by omega⟩)
              go_upto_region 37 with fail
              generalize w9.setCell ⟨B, 1, none⟩ (.slice a3 (k / 2) c3) = wE at *
              have HO := Lib.hid HF.out.outs
              have hS := HO.out.2.2.2.1
              refine wp_region_any (by kernel_rfl) (wpAny_of_E (S := Tri A B M #[.int .i64 N, .slice a1 L c1, .slice a2 L2 c2] #[.int .i64 NY, .slice a3 (k / 2) c3, .slice a4 L4 c4] #[.slice b1 p d1, .slice b2 q d2]) (l := 5) _ _ _ _ ?_)
              change wpAnyE _ _ _ _ _ _ _ _ _ wE.drew
              refine tkL (i := 0) (v := ?_) rfl (by kernel_rfl) (fun _ _ _ h => h) (.inl ⟨by rfl, ?_⟩) hS ?_
              rotate_left
              · intro w hSw; obtain ⟨qA, qB, qM, lA, lB, lM⟩ := hSw.facts; go_simp; (try with_reducible rfl)
              refine tkL (i := 1) (v := ?_) rfl (by kernel_rfl) (fun _ _ _ h => h) (.inl ⟨by rfl, ?_⟩) hS ?_
              rotate_left
              · intro w hSw; obtain ⟨qA, qB, qM, lA, lB, lM⟩ := hSw.facts; go_simp; (try with_reducible rfl)
              refine tkL (i := 2) (v := ?_) rfl (by kernel_rfl) (fun _ _ _ h => h) (.inl ⟨by rfl, ?_⟩) hS ?_
              rotate_left
              · intro w hSw; obtain ⟨qA, qB, qM, lA, lB, lM⟩ := hSw.facts; go_simp; (try with_reducible rfl)
              try simp only [Act.put, List.setIfInBounds_toArray, List.set_cons_zero, List.set_cons_succ]
              obtain ⟨⟨q2, f2, l2⟩, ⟨q3, f3, l3⟩, q4, f4, l4⟩ := HO.out.2.2.2.2.facts
              generalize wE.drew = wz at *
              refine wpAnyE_oneL (k := 3) (by kernel_rfl) rfl (fun K hK => ?_)
              go_simp
              refine hK.out _ _ (fun h => hS.off3 ⟨by omega, by omega, by omega⟩) ?_
              try simp only [Act.put, List.setIfInBounds_toArray, List.set_cons_zero, List.set_cons_succ]
              refine wpAnyE_oneL (k := 4) (by kernel_rfl) rfl (fun K hK => ?_)
              go_simp
              refine hK.out _ _ (fun h => (hS.off3 ⟨by omega, by omega, by omega⟩).off3 ⟨by omega, by omega, by omega⟩) ?_
              try simp only [Act.put, List.setIfInBounds_toArray, List.set_cons_zero, List.set_cons_succ]
              refine wpAnyE_oneL (k := 5) (by kernel_rfl) rfl (fun K hK => ?_)
              go_simp
              refine hK.out _ _ (fun h => absurd rfl h) ?_
              refine wpAnyE_done (by kernel_rfl) ?_ _
              go_wp2
              refine bodyPost_ret (v := .tuple #[.agg #[.int .i64 N, .slice a1 L c1, .slice a2 L2 c2], .agg #[.int .i64 NY, .slice a3 (k / 2) c3, .slice a4 L4 c4], .agg #[.slice b1 p d1, .slice b2 q d2]]) (by simp [results, Tryz.results10, go_sem, *]) rfl ⟨_, _, _, rfl, ⟨_, _, _, _, _, _, rfl⟩, Lib.hid (HO.out.1.off8 ⟨by omega, by omega, by omega, by omega⟩), Lib.hid (HO.out.2.1.off8 ⟨by omega, by omega, by omega, by omega⟩), below_off8 HO.out.2.2.1 ⟨by omega, by omega, by omega⟩⟩
            · by_cases h4 : 0 < L4
              · have h4' : (0 : Int) < (L4 : Int) := by omega
                obtain ⟨P, cs, rfl, hPP, kP, ⟨nm0, z0, cP0, cP1⟩, hP0, hP1⟩ := HP9.out.ps.row0 h4
                have HPS := Lib.hid (HP9.out.setP (v := .string ⟨#[97, 97]⟩) kP (hP0 ⟨#[97, 97]⟩ (by decide)) hgw4 hg0 hPP.1)
                have lP := kP.lt
                have fP := kP.free
                clear hP0 hP1
                have HF := Lib.hid (HPS.out.fin kA4 kM4 HBX4.out HAN.out hgl hAG hMG (by omega) ⟨by omega, by omega⟩)
                go_upto_region 37 with fail
                generalize w9.setCell ⟨P, 0, none⟩ (.string ⟨#[97, 97]⟩) = wE at *
                have HO := Lib.hid HF.out.outs
                have hS := HO.out.2.2.2.1
                refine wp_region_any (by kernel_rfl) (wpAny_of_E (S := Tri A B M #[.int .i64 N, .slice a1 L c1, .slice a2 L2 c2] #[.int .i64 NY, .slice a3 k c3, .slice (some ⟨P, 0, none⟩) L4 c4] #[.slice b1 p d1, .slice b2 q d2]) (l := 5) _ _ _ _ ?_)
                change wpAnyE _ _ _ _ _ _ _ _ _ wE.drew
                refine tkL (i := 0) (v := ?_) rfl (by kernel_rfl) (fun _ _ _ h => h) (.inl ⟨by rfl, ?_⟩) hS ?_
                rotate_left
                · intro w hSw; obtain ⟨qA, qB, qM, lA, lB, lM⟩ := hSw.facts; go_simp; (try with_reducible rfl)
                refine tkL (i := 1) (v := ?_) rfl (by kernel_rfl) (fun _ _ _ h => h) (.inl ⟨by rfl, ?_⟩) hS ?_
                rotate_left
                · intro w hSw; obtain ⟨qA, qB, qM, lA, lB, lM⟩ := hSw.facts; go_simp; (try with_reducible rfl)
                refine tkL (i := 2) (v := ?_) rfl (by kernel_rfl) (fun _ _ _ h => h) (.inl ⟨by rfl, ?_⟩) hS ?_
                rotate_left
                · intro w hSw; obtain ⟨qA, qB, qM, lA, lB, lM⟩ := hSw.facts; go_simp; (try with_reducible rfl)
                try simp only [Act.put, List.setIfInBounds_toArray, List.set_cons_zero, List.set_cons_succ]
                obtain ⟨⟨q2, f2, l2⟩, ⟨q3, f3, l3⟩, q4, f4, l4⟩ := HO.out.2.2.2.2.facts
                generalize wE.drew = wz at *
                refine wpAnyE_oneL (k := 3) (by kernel_rfl) rfl (fun K hK => ?_)
                go_simp
                refine hK.out _ _ (fun h => hS.off3 ⟨by omega, by omega, by omega⟩) ?_
                try simp only [Act.put, List.setIfInBounds_toArray, List.set_cons_zero, List.set_cons_succ]
                refine wpAnyE_oneL (k := 4) (by kernel_rfl) rfl (fun K hK => ?_)
                go_simp
                refine hK.out _ _ (fun h => (hS.off3 ⟨by omega, by omega, by omega⟩).off3 ⟨by omega, by omega, by omega⟩) ?_
                try simp only [Act.put, List.setIfInBounds_toArray, List.set_cons_zero, List.set_cons_succ]
                refine wpAnyE_oneL (k := 5) (by kernel_rfl) rfl (fun K hK => ?_)
                go_simp
                refine hK.out _ _ (fun h => absurd rfl h) ?_
                refine wpAnyE_done (by kernel_rfl) ?_ _
                go_wp2
                refine bodyPost_ret (v := .tuple #[.agg #[.int .i64 N, .slice a1 L c1, .slice a2 L2 c2], .agg #[.int .i64 NY, .slice a3 k c3, .slice (some ⟨P, 0, none⟩) L4 c4], .agg #[.slice b1 p d1, .slice b2 q d2]]) (by simp [results, Tryz.results10, go_sem, *]) rfl ⟨_, _, _, rfl, ⟨_, _, _, _, _, _, rfl⟩, Lib.hid (HO.out.1.off8 ⟨by omega, by omega, by omega, by omega⟩), Lib.hid (HO.out.2.1.off8 ⟨by omega, by omega, by omega, by omega⟩), below_off8 HO.out.2.2.1 ⟨by omega, by omega, by omega⟩⟩
              · have h4' : ¬ (0 : Int) < (L4 : Int) := by omega
                have HF := Lib.hid (HP9.out.fin kA4 kM4 HBX4.out HAN.out hgl hAG hMG (by omega) ⟨by omega, by omega⟩)
                go_upto_region 37 with fail
                have HO := Lib.hid HF.out.outs
                have hS := HO.out.2.2.2.1
                refine wp_region_any (by kernel_rfl) (wpAny_of_E (S := Tri A B M #[.int .i64 N, .slice a1 L c1, .slice a2 L2 c2] #[.int .i64 NY, .slice a3 k c3, .slice a4 L4 c4] #[.slice b1 p d1, .slice b2 q d2]) (l := 5) _ _ _ _ ?_)
                change wpAnyE _ _ _ _ _ _ _ _ _ w9.drew
                refine tkL (i := 0) (v := ?_) rfl (by kernel_rfl) (fun _ _ _ h => h) (.inl ⟨by rfl, ?_⟩) hS ?_
                rotate_left
                · intro w hSw; obtain ⟨qA, qB, qM, lA, lB, lM⟩ := hSw.facts; go_simp; (try with_reducible rfl)
                refine tkL (i := 1) (v := ?_) rfl (by kernel_rfl) (fun _ _ _ h => h) (.inl ⟨by rfl, ?_⟩) hS ?_
                rotate_left
                · intro w hSw; obtain ⟨qA, qB, qM, lA, lB, lM⟩ := hSw.facts; go_simp; (try with_reducible rfl)
                refine tkL (i := 2) (v := ?_) rfl (by kernel_rfl) (fun _ _ _ h => h) (.inl ⟨by rfl, ?_⟩) hS ?_
                rotate_left
                · intro w hSw; obtain ⟨qA, qB, qM, lA, lB, lM⟩ := hSw.facts; go_simp; (try with_reducible rfl)
                try simp only [Act.put, List.setIfInBounds_toArray, List.set_cons_zero, List.set_cons_succ]
                obtain ⟨⟨q2, f2, l2⟩, ⟨q3, f3, l3⟩, q4, f4, l4⟩ := HO.out.2.2.2.2.facts
                generalize w9.drew = wz at *
                refine wpAnyE_oneL (k := 3) (by kernel_rfl) rfl (fun K hK => ?_)
                go_simp
                refine hK.out _ _ (fun h => hS.off3 ⟨by omega, by omega, by omega⟩) ?_
                try simp only [Act.put, List.setIfInBounds_toArray, List.set_cons_zero, List.set_cons_succ]
                refine wpAnyE_oneL (k := 4) (by kernel_rfl) rfl (fun K hK => ?_)
                go_simp
                refine hK.out _ _ (fun h => (hS.off3 ⟨by omega, by omega, by omega⟩).off3 ⟨by omega, by omega, by omega⟩) ?_
                try simp only [Act.put, List.setIfInBounds_toArray, List.set_cons_zero, List.set_cons_succ]
                refine wpAnyE_oneL (k := 5) (by kernel_rfl) rfl (fun K hK => ?_)
                go_simp
                refine hK.out _ _ (fun h => absurd rfl h) ?_
                refine wpAnyE_done (by kernel_rfl) ?_ _
                go_wp2
                refine bodyPost_ret (v := .tuple #[.agg #[.int .i64 N, .slice a1 L c1, .slice a2 L2 c2], .agg #[.int .i64 NY, .slice a3 k c3, .slice a4 L4 c4], .agg #[.slice b1 p d1, .slice b2 q d2]]) (by simp [results, Tryz.results10, go_sem, *]) rfl ⟨_, _, _, rfl, ⟨_, _, _, _, _, _, rfl⟩, Lib.hid (HO.out.1.off8 ⟨by omega, by omega, by omega, by omega⟩), Lib.hid (HO.out.2.1.off8 ⟨by omega, by omega, by omega, by omega⟩), below_off8 HO.out.2.2.1 ⟨by omega, by omega, by omega⟩⟩
            · by_cases h3 : 0 < k
              · have h3' : (0 : Int) < (k : Int) := by omega
                have hrk : r < k := hr h3
                obtain ⟨b, f, j, cap, kind, wd, len, cs, cs', rfl, ⟨hbb, hff, hfb, hj⟩, kb, kf, r0, r1, r2, r3, rj⟩ := HP9.out.ds.row hrk
                have lb := kb.lt
                have fb := kb.free
                have hBb : ¬ B = b := fun e => by subst e; exact absurd (kb.differ2 HP9.out.b) (by decide)
                have hbB : ¬ b = B := fun e => hBb e.symm
                have HPS := Lib.hid (HP9.out.setW (v := 5) kb hrk hgw4 hg0 hbb.1)
                clear rj
                by_cases hkd : kind = 2
                · subst hkd
                  have HF := Lib.hid (HP9.out.fin kA4 kM4 HBX4.out HAN.out hgl hAG hMG (by omega) ⟨by omega, by omega⟩)
                  go_upto_region 37 with fail
                  have HO := Lib.hid HF.out.outs
                  have hS := HO.out.2.2.2.1
                  refine wp_region_any (by kernel_rfl) (wpAny_of_E (S := Tri A B M #[.int .i64 N, .slice a1 L c1, .slice a2 L2 c2] #[.int .i64 NY, .slice (some ⟨b, 0, none⟩) k c3, .slice a4 L4 c4] #[.slice b1 p d1, .slice b2 q d2]) (l := 5) _ _ _ _ ?_)
                  change wpAnyE _ _ _ _ _ _ _ _ _ w9.drew
                  refine tkL (i := 0) (v := ?_) rfl (by kernel_rfl) (fun _ _ _ h => h) (.inl ⟨by rfl, ?_⟩) hS ?_
                  rotate_left
                  · intro w hSw; obtain ⟨qA, qB, qM, lA, lB, lM⟩ := hSw.facts; go_simp; (try with_reducible rfl)
                  refine tkL (i := 1) (v := ?_) rfl (by kernel_rfl) (fun _ _ _ h => h) (.inl ⟨by rfl, ?_⟩) hS ?_
                  rotate_left
                  · intro w hSw; obtain ⟨qA, qB, qM, lA, lB, lM⟩ := hSw.facts; go_simp; (try with_reducible rfl)
                  refine tkL (i := 2) (v := ?_) rfl (by kernel_rfl) (fun _ _ _ h => h) (.inl ⟨by rfl, ?_⟩) hS ?_
                  rotate_left
                  · intro w hSw; obtain ⟨qA, qB, qM, lA, lB, lM⟩ := hSw.facts; go_simp; (try with_reducible rfl)
                  try simp only [Act.put, List.setIfInBounds_toArray, List.set_cons_zero, List.set_cons_succ]
                  obtain ⟨⟨q2, f2, l2⟩, ⟨q3, f3, l3⟩, q4, f4, l4⟩ := HO.out.2.2.2.2.facts
                  generalize w9.drew = wz at *
                  refine wpAnyE_oneL (k := 3) (by kernel_rfl) rfl (fun K hK => ?_)
                  go_simp
                  refine hK.out _ _ (fun h => hS.off3 ⟨by omega, by omega, by omega⟩) ?_
                  try simp only [Act.put, List.setIfInBounds_toArray, List.set_cons_zero, List.set_cons_succ]
                  refine wpAnyE_oneL (k := 4) (by kernel_rfl) rfl (fun K hK => ?_)
                  go_simp
                  refine hK.out _ _ (fun h => (hS.off3 ⟨by omega, by omega, by omega⟩).off3 ⟨by omega, by omega, by omega⟩) ?_
                  try simp only [Act.put, List.setIfInBounds_toArray, List.set_cons_zero, List.set_cons_succ]
                  refine wpAnyE_oneL (k := 5) (by kernel_rfl) rfl (fun K hK => ?_)
                  go_simp
                  refine hK.out _ _ (fun h => absurd rfl h) ?_
                  refine wpAnyE_done (by kernel_rfl) ?_ _
                  go_wp2
                  refine bodyPost_ret (v := .tuple #[.agg #[.int .i64 N, .slice a1 L c1, .slice a2 L2 c2], .agg #[.int .i64 NY, .slice (some ⟨b, 0, none⟩) k c3, .slice a4 L4 c4], .agg #[.slice b1 p d1, .slice b2 q d2]]) (by simp [results, Tryz.results10, go_sem, *]) rfl ⟨_, _, _, rfl, ⟨_, _, _, _, _, _, rfl⟩, Lib.hid (HO.out.1.off8 ⟨by omega, by omega, by omega, by omega⟩), Lib.hid (HO.out.2.1.off8 ⟨by omega, by omega, by omega, by omega⟩), below_off8 HO.out.2.2.1 ⟨by omega, by omega, by omega⟩⟩
                · have HF := Lib.hid (HPS.out.fin kA4 kM4 HBX4.out HAN.out hgl hAG hMG (by omega) ⟨by omega, by omega⟩)
                  go_upto_region 37 with fail
                  generalize w9.setCell ⟨b, r * 4 + 2, none⟩ (.int .i64 5) = wE at *
                  have HO := Lib.hid HF.out.outs
                  have hS := HO.out.2.2.2.1
                  refine wp_region_any (by kernel_rfl) (wpAny_of_E (S := Tri A B M #[.int .i64 N, .slice a1 L c1, .slice a2 L2 c2] #[.int .i64 NY, .slice (some ⟨b, 0, none⟩) k c3, .slice a4 L4 c4] #[.slice b1 p d1, .slice b2 q d2]) (l := 5) _ _ _ _ ?_)
                  change wpAnyE _ _ _ _ _ _ _ _ _ wE.drew
                  refine tkL (i := 0) (v := ?_) rfl (by kernel_rfl) (fun _ _ _ h => h) (.inl ⟨by rfl, ?_⟩) hS ?_
                  rotate_left
                  · intro w hSw; obtain ⟨qA, qB, qM, lA, lB, lM⟩ := hSw.facts; go_simp; (try with_reducible rfl)
                  refine tkL (i := 1) (v := ?_) rfl (by kernel_rfl) (fun _ _ _ h => h) (.inl ⟨by rfl, ?_⟩) hS ?_
                  rotate_left
                  · intro w hSw; obtain ⟨qA, qB, qM, lA, lB, lM⟩ := hSw.facts; go_simp; (try with_reducible rfl)
                  refine tkL (i := 2) (v := ?_) rfl (by kernel_rfl) (fun _ _ _ h => h) (.inl ⟨by rfl, ?_⟩) hS ?_
                  rotate_left
                  · intro w hSw; obtain ⟨qA, qB, qM, lA, lB, lM⟩ := hSw.facts; go_simp; (try with_reducible rfl)
                  try simp only [Act.put, List.setIfInBounds_toArray, List.set_cons_zero, List.set_cons_succ]
                  obtain ⟨⟨q2, f2, l2⟩, ⟨q3, f3, l3⟩, q4, f4, l4⟩ := HO.out.2.2.2.2.facts
                  generalize wE.drew = wz at *
                  refine wpAnyE_oneL (k := 3) (by kernel_rfl) rfl (fun K hK => ?_)
                  go_simp
                  refine hK.out _ _ (fun h => hS.off3 ⟨by omega, by omega, by omega⟩) ?_
                  try simp only [Act.put, List.setIfInBounds_toArray, List.set_cons_zero, List.set_cons_succ]
                  refine wpAnyE_oneL (k := 4) (by kernel_rfl) rfl (fun K hK => ?_)
                  go_simp
                  refine hK.out _ _ (fun h => (hS.off3 ⟨by omega, by omega, by omega⟩).off3 ⟨by omega, by omega, by omega⟩) ?_
                  try simp only [Act.put, List.setIfInBounds_toArray, List.set_cons_zero, List.set_cons_succ]
                  refine wpAnyE_oneL (k := 5) (by kernel_rfl) rfl (fun K hK => ?_)
                  go_simp
                  refine hK.out _ _ (fun h => absurd rfl h) ?_
                  refine wpAnyE_done (by kernel_rfl) ?_ _
                  go_wp2
                  refine bodyPost_ret (v := .tuple #[.agg #[.int .i64 N, .slice a1 L c1, .slice a2 L2 c2], .agg #[.int .i64 NY, .slice (some ⟨b, 0, none⟩) k c3, .slice a4 L4 c4], .agg #[.slice b1 p d1, .slice b2 q d2]]) (by simp [results, Tryz.results10, go_sem, *]) rfl ⟨_, _, _, rfl, ⟨_, _, _, _, _, _, rfl⟩, Lib.hid (HO.out.1.off8 ⟨by omega, by omega, by omega, by omega⟩), Lib.hid (HO.out.2.1.off8 ⟨by omega, by omega, by omega, by omega⟩), below_off8 HO.out.2.2.1 ⟨by omega, by omega, by omega⟩⟩
              · have h3' : ¬ (0 : Int) < (k : Int) := by omega
                have HF := Lib.hid (HP9.out.fin kA4 kM4 HBX4.out HAN.out hgl hAG hMG (by omega) ⟨by omega, by omega⟩)
                go_upto_region 37 with fail
                have HO := Lib.hid HF.out.outs
                have hS := HO.out.2.2.2.1
                refine wp_region_any (by kernel_rfl) (wpAny_of_E (S := Tri A B M #[.int .i64 N, .slice a1 L c1, .slice a2 L2 c2] #[.int .i64 NY, .slice a3 k c3, .slice a4 L4 c4] #[.slice b1 p d1, .slice b2 q d2]) (l := 5) _ _ _ _ ?_)
                change wpAnyE _ _ _ _ _ _ _ _ _ w9.drew
                refine tkL (i := 0) (v := ?_) rfl (by kernel_rfl) (fun _ _ _ h => h) (.inl ⟨by rfl, ?_⟩) hS ?_
                rotate_left
                · intro w hSw; obtain ⟨qA, qB, qM, lA, lB, lM⟩ := hSw.facts; go_simp; (try with_reducible rfl)
                refine tkL (i := 1) (v := ?_) rfl (by kernel_rfl) (fun _ _ _ h => h) (.inl ⟨by rfl, ?_⟩) hS ?_
                rotate_left
                · intro w hSw; obtain ⟨qA, qB, qM, lA, lB, lM⟩ := hSw.facts; go_simp; (try with_reducible rfl)
                refine tkL (i := 2) (v := ?_) rfl (by kernel_rfl) (fun _ _ _ h => h) (.inl ⟨by rfl, ?_⟩) hS ?_
                rotate_left
                · intro w hSw; obtain ⟨qA, qB, qM, lA, lB, lM⟩ := hSw.facts; go_simp; (try with_reducible rfl)
                try simp only [Act.put, List.setIfInBounds_toArray, List.set_cons_zero, List.set_cons_succ]
                obtain ⟨⟨q2, f2, l2⟩, ⟨q3, f3, l3⟩, q4, f4, l4⟩ := HO.out.2.2.2.2.facts
                generalize w9.drew = wz at *
                refine wpAnyE_oneL (k := 3) (by kernel_rfl) rfl (fun K hK => ?_)
                go_simp
                refine hK.out _ _ (fun h => hS.off3 ⟨by omega, by omega, by omega⟩) ?_
                try simp only [Act.put, List.setIfInBounds_toArray, List.set_cons_zero, List.set_cons_succ]
                refine wpAnyE_oneL (k := 4) (by kernel_rfl) rfl (fun K hK => ?_)
                go_simp
                refine hK.out _ _ (fun h => (hS.off3 ⟨by omega, by omega, by omega⟩).off3 ⟨by omega, by omega, by omega⟩) ?_
                try simp only [Act.put, List.setIfInBounds_toArray, List.set_cons_zero, List.set_cons_succ]
                refine wpAnyE_oneL (k := 5) (by kernel_rfl) rfl (fun K hK => ?_)
                go_simp
                refine hK.out _ _ (fun h => absurd rfl h) ?_
                refine wpAnyE_done (by kernel_rfl) ?_ _
                go_wp2
                refine bodyPost_ret (v := .tuple #[.agg #[.int .i64 N, .slice a1 L c1, .slice a2 L2 c2], .agg #[.int .i64 NY, .slice a3 k c3, .slice a4 L4 c4], .agg #[.slice b1 p d1, .slice b2 q d2]]) (by simp [results, Tryz.results10, go_sem, *]) rfl ⟨_, _, _, rfl, ⟨_, _, _, _, _, _, rfl⟩, Lib.hid (HO.out.1.off8 ⟨by omega, by omega, by omega, by omega⟩), Lib.hid (HO.out.2.1.off8 ⟨by omega, by omega, by omega, by omega⟩), below_off8 HO.out.2.2.1 ⟨by omega, by omega, by omega⟩⟩
            · by_cases h3 : 0 < k
              · have h3' : (0 : Int) < (k : Int) := by omega
                have hrk : r < k := hr h3
                obtain ⟨b, f, j, cap, kind, wd, len, cs, cs', rfl, ⟨hbb, hff, hfb, hj⟩, kb, kf, r0, r1, r2, r3, rj⟩ := HP9.out.ds.row hrk
                have lb := kb.lt
                have fb := kb.free
                have hBb : ¬ B = b := fun e => by subst e; exact absurd (kb.differ2 HP9.out.b) (by decide)
                have hbB : ¬ b = B := fun e => hBb e.symm
                have hNY2 : NY ≤ 256 := by omega
                have hj2 : (0 : Int) < (j : Int) + 2 := by omega
                have lf := kf.lt
                go_upto_region 30 with fail
                clear qB lB fB
                have hS : (fun w' : World => Exc (fun b => b = g) w9 w') { w9 with drawn := w9.drawn + 1 } := (Exc.refl _ w9).drew
                refine wp_region_any (by kernel_rfl) (wpAny_of_E (S := fun w' : World => Exc (fun b => b = g) w9 w') (l := 11) _ _ _ _ ?_)
                change wpAnyE _ _ _ _ _ _ _ _ _ w9.drew
                refine tkL (i := 0) (v := ?_) rfl (by kernel_rfl) (fun _ _ _ h => h) (.inl ⟨by rfl, ?_⟩) hS ?_
                rotate_left
                · intro w hSw; (try dsimp only at hSw); have qX := (hSw.blk HP9.out.b (by omega)).cell; have lX := (hSw.blk HP9.out.b (by omega)).lt; have y2 := cellE hSw r1 (by omega); clear hSw; go_simp; (try with_reducible rfl)
                refine tkL (i := 1) (v := ?_) rfl (by kernel_rfl) (fun _ _ _ h => h) (.inl ⟨by rfl, ?_⟩) hS ?_
                rotate_left
                · intro w hSw; (try dsimp only at hSw); have qX := (hSw.blk HP9.out.b (by omega)).cell; have lX := (hSw.blk HP9.out.b (by omega)).lt; have y2 := cellE hSw r1 (by omega); clear hSw; go_simp; (try with_reducible rfl)
                refine tkL (i := 2) (v := ?_) rfl (by kernel_rfl) (fun _ _ _ h => h) (.inl ⟨by rfl, ?_⟩) hS ?_
                rotate_left
                · intro w hSw; (try dsimp only at hSw); have qX := (hSw.blk HP9.out.b (by omega)).cell; have lX := (hSw.blk HP9.out.b (by omega)).lt; have y2 := cellE hSw r1 (by omega); clear hSw; go_simp; (try with_reducible rfl)
                refine tkL (i := 3) (v := ?_) rfl (by kernel_rfl) (fun _ _ _ h => h) (.inl ⟨by rfl, ?_⟩) hS ?_
                rotate_left
                · intro w hSw; (try dsimp only at hSw); have qX := (hSw.blk HP9.out.b (by omega)).cell; have lX := (hSw.blk HP9.out.b (by omega)).lt; have y2 := cellE hSw r1 (by omega); clear hSw; go_simp; (try with_reducible rfl)
                refine tkL (i := 4) (v := ?_) rfl (by kernel_rfl) (fun _ _ _ h => h) (.inl ⟨by rfl, ?_⟩) hS ?_
                rotate_left
                · intro w hSw; (try dsimp only at hSw); have qX := (hSw.blk HP9.out.b (by omega)).cell; have lX := (hSw.blk HP9.out.b (by omega)).lt; have y2 := cellE hSw r1 (by omega); clear hSw; go_simp; (try with_reducible rfl)
                refine tkL (i := 5) (v := ?_) rfl (by kernel_rfl) (fun _ _ _ h => h) (.inl ⟨by rfl, ?_⟩) hS ?_
                rotate_left
                · intro w hSw; (try dsimp only at hSw); have qX := (hSw.blk HP9.out.b (by omega)).cell; have lX := (hSw.blk HP9.out.b (by omega)).lt; have y2 := cellE hSw r1 (by omega); clear hSw; go_simp; (try with_reducible rfl)
                refine tkL (i := 6) (v := ?_) rfl (by kernel_rfl) (fun _ _ _ h => h) (.inl ⟨by rfl, ?_⟩) hS ?_
                rotate_left
                · intro w hSw; (try dsimp only at hSw); have qX := (hSw.blk HP9.out.b (by omega)).cell; have lX := (hSw.blk HP9.out.b (by omega)).lt; have y2 := cellE hSw r1 (by omega); clear hSw; go_simp; (try with_reducible rfl)
                refine tkL (i := 7) (v := ?_) rfl (by kernel_rfl) (fun _ _ _ h => h) (.inl ⟨by rfl, ?_⟩) hS ?_
                rotate_left
                · intro w hSw; (try dsimp only at hSw); have qX := (hSw.blk HP9.out.b (by omega)).cell; have lX := (hSw.blk HP9.out.b (by omega)).lt; have y2 := cellE hSw r1 (by omega); clear hSw; go_simp; (try with_reducible rfl)
                refine tkL (i := 8) (v := ?_) rfl (by kernel_rfl) (fun _ _ _ h => h) (.inl ⟨by rfl, ?_⟩) hS ?_
                rotate_left
                · intro w hSw; (try dsimp only at hSw); have qX := (hSw.blk HP9.out.b (by omega)).cell; have lX := (hSw.blk HP9.out.b (by omega)).lt; have y2 := cellE hSw r1 (by omega); clear hSw; go_simp; (try with_reducible rfl)
                try simp only [Act.put, List.setIfInBounds_toArray, List.set_cons_zero, List.set_cons_succ]
                refine wpAnyE_oneL (k := 9) (by kernel_rfl) rfl (fun K hK => ?_)
                go_simp
                go_at_call 32
                refine (HN.out _ _ (HP9.out.src.by (below_of_drewN w9 1)) (by omega)).mono ?_
                rintro e wA ⟨yy, rfl, hr0, hr1, HDA, hoA⟩
                have HPA := Lib.hid ((HP9.out.by (below_of_drewN w9 1)).only hoA HDA hgw4 hB5)
                have hSb : (fun w' : World => Exc (fun b => b = g) w9 w') wA := (Exc.drewN (Exc.refl _ w9) 1).on (Exc.ofWithin hoA.within (fun b h1 h2 => by show b = g; omega))
                refine hK.out _ _ (fun _ => hSb) ?_
                try simp only [Act.put, List.setIfInBounds_toArray, List.set_cons_zero, List.set_cons_succ]
                refine tkL (i := 10) (v := ?_) rfl (by kernel_rfl) (fun _ _ _ h => h) (.inl ⟨by rfl, ?_⟩) hSb ?_
                rotate_left
                · intro w hSw; (try dsimp only at hSw); have qX := (hSw.blk HP9.out.b (by omega)).cell; have lX := (hSw.blk HP9.out.b (by omega)).lt; have y2 := cellE hSw r1 (by omega); clear hSw; go_simp; (try with_reducible rfl)
                try simp only [Act.put, List.setIfInBounds_toArray, List.set_cons_zero, List.set_cons_succ]
                refine wpAnyE_oneL (k := 11) (by kernel_rfl) rfl (fun K hK => ?_)
                have kfA := hSb.blk kf (by omega)
                obtain ⟨p0, hp0⟩ := rj 0 (by omega)
                have p0A := cellE hSb hp0 (by omega)
                clear rj hp0
                have HPS := Lib.hid (HPA.out.setI (j := 0) (v := yy) kfA hgw4 hg0 hff.1)
                have ffA := kfA.free
                have lfA := kfA.lt
                go_simp
                refine hK.out _ _ (fun h => absurd rfl h) ?_
                refine wpAnyE_done (by kernel_rfl) ?_ _
                have HF := Lib.hid (HPS.out.fin kA4 kM4 HBX4.out HAN.out hgl hAG hMG (by omega) ⟨by omega, by omega⟩)
                go_upto_region 37 with fail
                generalize wA.setCell ⟨f, 0, none⟩ (.int .i64 yy) = wE at *
                have HO := Lib.hid HF.out.outs
                have hS := HO.out.2.2.2.1
                refine wp_region_any (by kernel_rfl) (wpAny_of_E (S := Tri A B M #[.int .i64 N, .slice a1 L c1, .slice a2 L2 c2] #[.int .i64 NY, .slice (some ⟨b, 0, none⟩) k c3, .slice a4 L4 c4] #[.slice b1 p d1, .slice b2 q d2]) (l := 5) _ _ _ _ ?_)
                change wpAnyE _ _ _ _ _ _ _ _ _ wE.drew
                refine tkL (i := 0) (v := ?_) rfl (by kernel_rfl) (fun _ _ _ h => h) (.inl ⟨by rfl, ?_⟩) hS ?_
                rotate_left
                · intro w hSw; obtain ⟨qA, qB, qM, lA, lB, lM⟩ := hSw.facts; go_simp; (try with_reducible rfl)
                refine tkL (i := 1) (v := ?_) rfl (by kernel_rfl) (fun _ _ _ h => h) (.inl ⟨by rfl, ?_⟩) hS ?_
                rotate_left
                · intro w hSw; obtain ⟨qA, qB, qM, lA, lB, lM⟩ := hSw.facts; go_simp; (try with_reducible rfl)
                refine tkL (i := 2) (v := ?_) rfl (by kernel_rfl) (fun _ _ _ h => h) (.inl ⟨by rfl, ?_⟩) hS ?_
                rotate_left
                · intro w hSw; obtain ⟨qA, qB, qM, lA, lB, lM⟩ := hSw.facts; go_simp; (try with_reducible rfl)
                try simp only [Act.put, List.setIfInBounds_toArray, List.set_cons_zero, List.set_cons_succ]
                obtain ⟨⟨q2, f2, l2⟩, ⟨q3, f3, l3⟩, q4, f4, l4⟩ := HO.out.2.2.2.2.facts
                generalize wE.drew = wz at *
                refine wpAnyE_oneL (k := 3) (by kernel_rfl) rfl (fun K hK => ?_)
                go_simp
                refine hK.out _ _ (fun h => hS.off3 ⟨by omega, by omega, by omega⟩) ?_
                try simp only [Act.put, List.setIfInBounds_toArray, List.set_cons_zero, List.set_cons_succ]
                refine wpAnyE_oneL (k := 4) (by kernel_rfl) rfl (fun K hK => ?_)
                go_simp
                refine hK.out _ _ (fun h => (hS.off3 ⟨by omega, by omega, by omega⟩).off3 ⟨by omega, by omega, by omega⟩) ?_
                try simp only [Act.put, List.setIfInBounds_toArray, List.set_cons_zero, List.set_cons_succ]
                refine wpAnyE_oneL (k := 5) (by kernel_rfl) rfl (fun K hK => ?_)
                go_simp
                refine hK.out _ _ (fun h => absurd rfl h) ?_
                refine wpAnyE_done (by kernel_rfl) ?_ _
                go_wp2
                refine bodyPost_ret (v := .tuple #[.agg #[.int .i64 N, .slice a1 L c1, .slice a2 L2 c2], .agg #[.int .i64 NY, .slice (some ⟨b, 0, none⟩) k c3, .slice a4 L4 c4], .agg #[.slice b1 p d1, .slice b2 q d2]]) (by simp [results, Tryz.results10, go_sem, *]) rfl ⟨_, _, _, rfl, ⟨_, _, _, _, _, _, rfl⟩, Lib.hid (HO.out.1.off8 ⟨by omega, by omega, by omega, by omega⟩), Lib.hid (HO.out.2.1.off8 ⟨by omega, by omega, by omega, by omega⟩), below_off8 HO.out.2.2.1 ⟨by omega, by omega, by omega⟩⟩
              · have h3' : ¬ (0 : Int) < (k : Int) := by omega
                have HF := Lib.hid (HP9.out.fin kA4 kM4 HBX4.out HAN.out hgl hAG hMG (by omega) ⟨by omega, by omega⟩)
                go_upto_region 37 with fail
                have HO := Lib.hid HF.out.outs
                have hS := HO.out.2.2.2.1
                refine wp_region_any (by kernel_rfl) (wpAny_of_E (S := Tri A B M #[.int .i64 N, .slice a1 L c1, .slice a2 L2 c2] #[.int .i64 NY, .slice a3 k c3, .slice a4 L4 c4] #[.slice b1 p d1, .slice b2 q d2]) (l := 5) _ _ _ _ ?_)
                change wpAnyE _ _ _ _ _ _ _ _ _ w9.drew
                refine tkL (i := 0) (v := ?_) rfl (by kernel_rfl) (fun _ _ _ h => h) (.inl ⟨by rfl, ?_⟩) hS ?_
                rotate_left
                · intro w hSw; obtain ⟨qA, qB, qM, lA, lB, lM⟩ := hSw.facts; go_simp; (try with_reducible rfl)
                refine tkL (i := 1) (v := ?_) rfl (by kernel_rfl) (fun _ _ _ h => h) (.inl ⟨by rfl, ?_⟩) hS ?_
                rotate_left
                · intro w hSw; obtain ⟨qA, qB, qM, lA, lB, lM⟩ := hSw.facts; go_simp; (try with_reducible rfl)
                refine tkL (i := 2) (v := ?_) rfl (by kernel_rfl) (fun _ _ _ h => h) (.inl ⟨by rfl, ?_⟩) hS ?_
                rotate_left
                · intro w hSw; obtain ⟨qA, qB, qM, lA, lB, lM⟩ := hSw.facts; go_simp; (try with_reducible rfl)
                try simp only [Act.put, List.setIfInBounds_toArray, List.set_cons_zero, List.set_cons_succ]
                obtain ⟨⟨q2, f2, l2⟩, ⟨q3, f3, l3⟩, q4, f4, l4⟩ := HO.out.2.2.2.2.facts
                generalize w9.drew = wz at *
                refine wpAnyE_oneL (k := 3) (by kernel_rfl) rfl (fun K hK => ?_)
                go_simp
                refine hK.out _ _ (fun h => hS.off3 ⟨by omega, by omega, by omega⟩) ?_
                try simp only [Act.put, List.setIfInBounds_toArray, List.set_cons_zero, List.set_cons_succ]
                refine wpAnyE_oneL (k := 4) (by kernel_rfl) rfl (fun K hK => ?_)
                go_simp
                refine hK.out _ _ (fun h => (hS.off3 ⟨by omega, by omega, by omega⟩).off3 ⟨by omega, by omega, by omega⟩) ?_
                try simp only [Act.put, List.setIfInBounds_toArray, List.set_cons_zero, List.set_cons_succ]
                refine wpAnyE_oneL (k := 5) (by kernel_rfl) rfl (fun K hK => ?_)
                go_simp
                refine hK.out _ _ (fun h => absurd rfl h) ?_
                refine wpAnyE_done (by kernel_rfl) ?_ _
                go_wp2
                refine bodyPost_ret (v := .tuple #[.agg #[.int .i64 N, .slice a1 L c1, .slice a2 L2 c2], .agg #[.int .i64 NY, .slice a3 k c3, .slice a4 L4 c4], .agg #[.slice b1 p d1, .slice b2 q d2]]) (by simp [results, Tryz.results10, go_sem, *]) rfl ⟨_, _, _, rfl, ⟨_, _, _, _, _, _, rfl⟩, Lib.hid (HO.out.1.off8 ⟨by omega, by omega, by omega, by omega⟩), Lib.hid (HO.out.2.1.off8 ⟨by omega, by omega, by omega, by omega⟩), below_off8 HO.out.2.2.1 ⟨by omega, by omega, by omega⟩⟩
            · by_cases h4 : 0 < L4
              · have h4' : (0 : Int) < (L4 : Int) := by omega
                obtain ⟨P, cs, rfl, hPP, kP, ⟨nm0, z0, cP0, cP1⟩, hP0, hP1⟩ := HP9.out.ps.row0 h4
                have hNY2 : NY ≤ 256 := by omega
                go_upto_region 33 with fail
                clear qB lB fB
                have hS : (fun w' : World => Exc (fun b => b = g) w9 w') { w9 with drawn := w9.drawn + 1 } := (Exc.refl _ w9).drew
                refine wp_region_any (by kernel_rfl) (wpAny_of_E (S := fun w' : World => Exc (fun b => b = g) w9 w') (l := 8) _ _ _ _ ?_)
                change wpAnyE _ _ _ _ _ _ _ _ _ w9.drew
                refine tkL (i := 0) (v := ?_) rfl (by kernel_rfl) (fun _ _ _ h => h) (.inl ⟨by rfl, ?_⟩) hS ?_
                rotate_left
                · intro w hSw; (try dsimp only at hSw); have qX := (hSw.blk HP9.out.b (by omega)).cell; have lX := (hSw.blk HP9.out.b (by omega)).lt; clear hSw; go_simp; (try with_reducible rfl)
                refine tkL (i := 1) (v := ?_) rfl (by kernel_rfl) (fun _ _ _ h => h) (.inl ⟨by rfl, ?_⟩) hS ?_
                rotate_left
                · intro w hSw; (try dsimp only at hSw); have qX := (hSw.blk HP9.out.b (by omega)).cell; have lX := (hSw.blk HP9.out.b (by omega)).lt; clear hSw; go_simp; (try with_reducible rfl)
                refine tkL (i := 2) (v := ?_) rfl (by kernel_rfl) (fun _ _ _ h => h) (.inl ⟨by rfl, ?_⟩) hS ?_
                rotate_left
                · intro w hSw; (try dsimp only at hSw); have qX := (hSw.blk HP9.out.b (by omega)).cell; have lX := (hSw.blk HP9.out.b (by omega)).lt; clear hSw; go_simp; (try with_reducible rfl)
                refine tkL (i := 3) (v := ?_) rfl (by kernel_rfl) (fun _ _ _ h => h) (.inl ⟨by rfl, ?_⟩) hS ?_
                rotate_left
                · intro w hSw; (try dsimp only at hSw); have qX := (hSw.blk HP9.out.b (by omega)).cell; have lX := (hSw.blk HP9.out.b (by omega)).lt; clear hSw; go_simp; (try with_reducible rfl)
                refine tkL (i := 4) (v := ?_) rfl (by kernel_rfl) (fun _ _ _ h => h) (.inl ⟨by rfl, ?_⟩) hS ?_
                rotate_left
                · intro w hSw; (try dsimp only at hSw); have qX := (hSw.blk HP9.out.b (by omega)).cell; have lX := (hSw.blk HP9.out.b (by omega)).lt; clear hSw; go_simp; (try with_reducible rfl)
                try simp only [Act.put, List.setIfInBounds_toArray, List.set_cons_zero, List.set_cons_succ]
                refine wpAnyE_oneL (k := 5) (by kernel_rfl) rfl (fun K hK => ?_)
                go_simp
                go_at_call 32
                refine (HN.out _ _ (HP9.out.src.by (below_of_drewN w9 1)) (by omega)).mono ?_
                rintro e wA ⟨yy, rfl, hr0, hr1, HDA, hoA⟩
                have HPA := Lib.hid ((HP9.out.by (below_of_drewN w9 1)).only hoA HDA hgw4 hB5)
                have hSb : (fun w' : World => Exc (fun b => b = g) w9 w') wA := (Exc.drewN (Exc.refl _ w9) 1).on (Exc.ofWithin hoA.within (fun b h1 h2 => by show b = g; omega))
                refine hK.out _ _ (fun _ => hSb) ?_
                try simp only [Act.put, List.setIfInBounds_toArray, List.set_cons_zero, List.set_cons_succ]
                refine tkL (i := 6) (v := ?_) rfl (by kernel_rfl) (fun _ _ _ h => h) (.inl ⟨by rfl, ?_⟩) hSb ?_
                rotate_left
                · intro w hSw; (try dsimp only at hSw); have qX := (hSw.blk HP9.out.b (by omega)).cell; have lX := (hSw.blk HP9.out.b (by omega)).lt; clear hSw; go_simp; (try with_reducible rfl)
                refine tkL (i := 7) (v := ?_) rfl (by kernel_rfl) (fun _ _ _ h => h) (.inl ⟨by rfl, ?_⟩) hSb ?_
                rotate_left
                · intro w hSw; (try dsimp only at hSw); have qX := (hSw.blk HP9.out.b (by omega)).cell; have lX := (hSw.blk HP9.out.b (by omega)).lt; clear hSw; go_simp; (try with_reducible rfl)
                try simp only [Act.put, List.setIfInBounds_toArray, List.set_cons_zero, List.set_cons_succ]
                refine wpAnyE_oneL (k := 8) (by kernel_rfl) rfl (fun K hK => ?_)
                obtain ⟨P', cs', eP, hPP', kPA, ⟨nm0', z0', cP0', cP1'⟩, hP0', hP1'⟩ := HPA.out.ps.row0 h4
                have eQ := addr_injM eP
                clear eP
                subst eQ
                have HPS := Lib.hid (HPA.out.setP (v := .int .i64 yy) kPA (hP1' yy ⟨by omega, by omega⟩) hgw4 hg0 hPP.1)
                have fPA := kPA.free
                have lPA := kPA.lt
                clear hP0 hP1 hP0' hP1'
                go_simp
                refine hK.out _ _ (fun h => absurd rfl h) ?_
                refine wpAnyE_done (by kernel_rfl) ?_ _
                have HF := Lib.hid (HPS.out.fin kA4 kM4 HBX4.out HAN.out hgl hAG hMG (by omega) ⟨by omega, by omega⟩)
                go_upto_region 37 with fail
                generalize wA.setCell ⟨P, 1, none⟩ (.int .i64 yy) = wE at *
                have HO := Lib.hid HF.out.outs
                have hS := HO.out.2.2.2.1
                refine wp_region_any (by kernel_rfl) (wpAny_of_E (S := Tri A B M #[.int .i64 N, .slice a1 L c1, .slice a2 L2 c2] #[.int .i64 NY, .slice a3 k c3, .slice (some ⟨P, 0, none⟩) L4 c4] #[.slice b1 p d1, .slice b2 q d2]) (l := 5) _ _ _ _ ?_)
                change wpAnyE _ _ _ _ _ _ _ _ _ wE.drew
                refine tkL (i := 0) (v := ?_) rfl (by kernel_rfl) (fun _ _ _ h => h) (.inl ⟨by rfl, ?_⟩) hS ?_
                rotate_left
                · intro w hSw; obtain ⟨qA, qB, qM, lA, lB, lM⟩ := hSw.facts; go_simp; (try with_reducible rfl)
                refine tkL (i := 1) (v := ?_) rfl (by kernel_rfl) (fun _ _ _ h => h) (.inl ⟨by rfl, ?_⟩) hS ?_
                rotate_left
                · intro w hSw; obtain ⟨qA, qB, qM, lA, lB, lM⟩ := hSw.facts; go_simp; (try with_reducible rfl)
                refine tkL (i := 2) (v := ?_) rfl (by kernel_rfl) (fun _ _ _ h => h) (.inl ⟨by rfl, ?_⟩) hS ?_
                rotate_left
                · intro w hSw; obtain ⟨qA, qB, qM, lA, lB, lM⟩ := hSw.facts; go_simp; (try with_reducible rfl)
                try simp only [Act.put, List.setIfInBounds_toArray, List.set_cons_zero, List.set_cons_succ]
                obtain ⟨⟨q2, f2, l2⟩, ⟨q3, f3, l3⟩, q4, f4, l4⟩ := HO.out.2.2.2.2.facts
                generalize wE.drew = wz at *
                refine wpAnyE_oneL (k := 3) (by kernel_rfl) rfl (fun K hK => ?_)
                go_simp
                refine hK.out _ _ (fun h => hS.off3 ⟨by omega, by omega, by omega⟩) ?_
                try simp only [Act.put, List.setIfInBounds_toArray, List.set_cons_zero, List.set_cons_succ]
                refine wpAnyE_oneL (k := 4) (by kernel_rfl) rfl (fun K hK => ?_)
                go_simp
                refine hK.out _ _ (fun h => (hS.off3 ⟨by omega, by omega, by omega⟩).off3 ⟨by omega, by omega, by omega⟩) ?_
                try simp only [Act.put, List.setIfInBounds_toArray, List.set_cons_zero, List.set_cons_succ]
                refine wpAnyE_oneL (k := 5) (by kernel_rfl) rfl (fun K hK => ?_)
                go_simp
                refine hK.out _ _ (fun h => absurd rfl h) ?_
                refine wpAnyE_done (by kernel_rfl) ?_ _
                go_wp2
                refine bodyPost_ret (v := .tuple #[.agg #[.int .i64 N, .slice a1 L c1, .slice a2 L2 c2], .agg #[.int .i64 NY, .slice a3 k c3, .slice (some ⟨P, 0, none⟩) L4 c4], .agg #[.slice b1 p d1, .slice b2 q d2]]) (by simp [results, Tryz.results10, go_sem, *]) rfl ⟨_, _, _, rfl, ⟨_, _, _, _, _, _, rfl⟩, Lib.hid (HO.out.1.off8 ⟨by omega, by omega, by omega, by omega⟩), Lib.hid (HO.out.2.1.off8 ⟨by omega, by omega, by omega, by omega⟩), below_off8 HO.out.2.2.1 ⟨by omega, by omega, by omega⟩⟩
              · have h4' : ¬ (0 : Int) < (L4 : Int) := by omega
                have HF := Lib.hid (HP9.out.fin kA4 kM4 HBX4.out HAN.out hgl hAG hMG (by omega) ⟨by omega, by omega⟩)
                go_upto_region 37 with fail
                have HO := Lib.hid HF.out.outs
                have hS := HO.out.2.2.2.1
                refine wp_region_any (by kernel_rfl) (wpAny_of_E (S := Tri A B M #[.int .i64 N, .slice a1 L c1, .slice a2 L2 c2] #[.int .i64 NY, .slice a3 k c3, .slice a4 L4 c4] #[.slice b1 p d1, .slice b2 q d2]) (l := 5) _ _ _ _ ?_)
                change wpAnyE _ _ _ _ _ _ _ _ _ w9.drew
                refine tkL (i := 0) (v := ?_) rfl (by kernel_rfl) (fun _ _ _ h => h) (.inl ⟨by rfl, ?_⟩) hS ?_
                rotate_left
                · intro w hSw; obtain ⟨qA, qB, qM, lA, lB, lM⟩ := hSw.facts; go_simp; (try with_reducible rfl)
                refine tkL (i := 1) (v := ?_) rfl (by kernel_rfl) (fun _ _ _ h => h) (.inl ⟨by rfl, ?_⟩) hS ?_
                rotate_left
                · intro w hSw; obtain ⟨qA, qB, qM, lA, lB, lM⟩ := hSw.facts; go_simp; (try with_reducible rfl)
                refine tkL (i := 2) (v := ?_) rfl (by kernel_rfl) (fun _ _ _ h => h) (.inl ⟨by rfl, ?_⟩) hS ?_
                rotate_left
                · intro w hSw; obtain ⟨qA, qB, qM, lA, lB, lM⟩ := hSw.facts; go_simp; (try with_reducible rfl)
                try simp only [Act.put, List.setIfInBounds_toArray, List.set_cons_zero, List.set_cons_succ]
                obtain ⟨⟨q2, f2, l2⟩, ⟨q3, f3, l3⟩, q4, f4, l4⟩ := HO.out.2.2.2.2.facts
                generalize w9.drew = wz at *
                refine wpAnyE_oneL (k := 3) (by kernel_rfl) rfl (fun K hK => ?_)
                go_simp
                refine hK.out _ _ (fun h => hS.off3 ⟨by omega, by omega, by omega⟩) ?_
                try simp only [Act.put, List.setIfInBounds_toArray, List.set_cons_zero, List.set_cons_succ]
                refine wpAnyE_oneL (k := 4) (by kernel_rfl) rfl (fun K hK => ?_)
                go_simp
                refine hK.out _ _ (fun h => (hS.off3 ⟨by omega, by omega, by omega⟩).off3 ⟨by omega, by omega, by omega⟩) ?_
                try simp only [Act.put, List.setIfInBounds_toArray, List.set_cons_zero, List.set_cons_succ]
                refine wpAnyE_oneL (k := 5) (by kernel_rfl) rfl (fun K hK => ?_)
                go_simp
                refine hK.out _ _ (fun h => absurd rfl h) ?_
                refine wpAnyE_done (by kernel_rfl) ?_ _
                go_wp2
                refine bodyPost_ret (v := .tuple #[.agg #[.int .i64 N, .slice a1 L c1, .slice a2 L2 c2], .agg #[.int .i64 NY, .slice a3 k c3, .slice a4 L4 c4], .agg #[.slice b1 p d1, .slice b2 q d2]]) (by simp [results, Tryz.results10, go_sem, *]) rfl ⟨_, _, _, rfl, ⟨_, _, _, _, _, _, rfl⟩, Lib.hid (HO.out.1.off8 ⟨by omega, by omega, by omega, by omega⟩), Lib.hid (HO.out.2.1.off8 ⟨by omega, by omega, by omega, by omega⟩), below_off8 HO.out.2.2.1 ⟨by omega, by omega, by omega⟩⟩
            · have HF9 := Lib.hid (HP9.out.fin kA4 kM4 HBX4.out HAN.out hgl hAG hMG (by omega) ⟨by omega, by omega⟩)
              have hA4 := kA4.lt
              have hM4 := kM4.lt
              have hAB : A ≠ B := by omega
              have HPS := Lib.hid (HF9.out.set11 hAG (by omega) hAB (by omega) 11 ⟨by decide, by decide⟩)
              have qA9 := HF9.out.a.cell
              have lA9 := HF9.out.a.lt
              have fA9 := HF9.out.a.free
              have hBA : ¬ B = A := fun e => hAB e.symm
              have HF := Lib.hid (HPS.out)
              go_upto_region 37 with fail
              generalize (w9.setCell ⟨A, 0, none⟩ (.int .i64 11)).setCell ⟨B, 0, none⟩ (.int .i64 11) = wE at *
              have HO := Lib.hid HF.out.outs
              have hS := HO.out.2.2.2.1
              refine wp_region_any (by kernel_rfl) (wpAny_of_E (S := Tri A B M #[.int .i64 11, .slice a1 L c1, .slice a2 L2 c2] #[.int .i64 11, .slice a3 k c3, .slice a4 L4 c4] #[.slice b1 p d1, .slice b2 q d2]) (l := 5) _ _ _ _ ?_)
              change wpAnyE _ _ _ _ _ _ _ _ _ wE.drew
              refine tkL (i := 0) (v := ?_) rfl (by kernel_rfl) (fun _ _ _ h => h) (.inl ⟨by rfl, ?_⟩) hS ?_
              rotate_left
              · intro w hSw; obtain ⟨qA, qB, qM, lA, lB, lM⟩ := hSw.facts; go_simp; (try with_reducible rfl)
              refine tkL (i := 1) (v := ?_) rfl (by kernel_rfl) (fun _ _ _ h => h) (.inl ⟨by rfl, ?_⟩) hS ?_
              rotate_left
              · intro w hSw; obtain ⟨qA, qB, qM, lA, lB, lM⟩ := hSw.facts; go_simp; (try with_reducible rfl)
              refine tkL (i := 2) (v := ?_) rfl (by kernel_rfl) (fun _ _ _ h => h) (.inl ⟨by rfl, ?_⟩) hS ?_
              rotate_left
              · intro w hSw; obtain ⟨qA, qB, qM, lA, lB, lM⟩ := hSw.facts; go_simp; (try with_reducible rfl)
              try simp only [Act.put, List.setIfInBounds_toArray, List.set_cons_zero, List.set_cons_succ]
              obtain ⟨⟨q2, f2, l2⟩, ⟨q3, f3, l3⟩, q4, f4, l4⟩ := HO.out.2.2.2.2.facts
              generalize wE.drew = wz at *
              refine wpAnyE_oneL (k := 3) (by kernel_rfl) rfl (fun K hK => ?_)
              go_simp
              refine hK.out _ _ (fun h => hS.off3 ⟨by omega, by omega, by omega⟩) ?_
              try simp only [Act.put, List.setIfInBounds_toArray, List.set_cons_zero, List.set_cons_succ]
              refine wpAnyE_oneL (k := 4) (by kernel_rfl) rfl (fun K hK => ?_)
              go_simp
              refine hK.out _ _ (fun h => (hS.off3 ⟨by omega, by omega, by omega⟩).off3 ⟨by omega, by omega, by omega⟩) ?_
              try simp only [Act.put, List.setIfInBounds_toArray, List.set_cons_zero, List.set_cons_succ]
              refine wpAnyE_oneL (k := 5) (by kernel_rfl) rfl (fun K hK => ?_)
              go_simp
              refine hK.out _ _ (fun h => absurd rfl h) ?_
              refine wpAnyE_done (by kernel_rfl) ?_ _
              go_wp2
              refine bodyPost_ret (v := .tuple #[.agg #[.int .i64 11, .slice a1 L c1, .slice a2 L2 c2], .agg #[.int .i64 11, .slice a3 k c3, .slice a4 L4 c4], .agg #[.slice b1 p d1, .slice b2 q d2]]) (by simp [results, Tryz.results10, go_sem, *]) rfl ⟨_, _, _, rfl, ⟨_, _, _, _, _, _, rfl⟩, Lib.hid (HO.out.1.off8 ⟨by omega, by omega, by omega, by omega⟩), Lib.hid (HO.out.2.1.off8 ⟨by omega, by omega, by omega, by omega⟩), below_off8 HO.out.2.2.1 ⟨by omega, by omega, by omega⟩⟩
  · have hcz := (inv_bad hc).1
    have hcz' : ((apC x z) == 0) = false := by simpa using hcz
    obtain ⟨NY, eN⟩ : ∃ N, (apR x z).nets = N := ⟨_, rfl⟩
    obtain ⟨L3, eL3⟩ : ∃ L, (apR x z).ds.length = L := ⟨_, rfl⟩
    obtain ⟨L4, eL4⟩ : ∃ L, (apR x z).ps.length = L := ⟨_, rfl⟩
    rw [eN, eL3, eL4]
    generalize apC x z = cc at *
    have hal : Below w5.heap.size w5 (w5.alloc (.cells #[.int .i64 NY, .slice a3 L3 c3, .slice a4 L4 c4] 27)) := (Below.refl _ w5).alloc (Nat.le_refl _) _
    have hb6 := below_on hal hb5
    have kA6 := Blk.by hb6 kA4
    have kM6 := Blk.by hb6 kM4
    have HBX6 := Lib.hid (HBX4.out.by hb6)
    have HAN6 := Lib.hid (HAN.out.by hb6)
    have HD6 := Lib.hid (HD5.out.by hal)
    clear hO5 eN eL3 eL4 HSM hc HD5 HD4 hb5 HO4 HDM HDN HEQ HS HN HFI hcz hal qA lA qM lM kA4 kM4 HBX4 HAN hb6
    have qA := kA6.cell
    have lA := kA6.lt
    have qM := kM6.cell
    have lM := kM6.lt
    go_upto_region 5 with fail
    clear qA lA qM lM
    generalize w5.alloc (.cells #[.int .i64 NY, .slice a3 L3 c3, .slice a4 L4 c4] 27) = w6 at *
    have hS : (fun w' : World => Blk w' A #[.int .i64 N, .slice a1 L c1, .slice a2 L2 c2] 27 ∧ Blk w' M #[.slice b1 p d1, .slice b2 q d2] 32) { w6 with drawn := w6.drawn + 1 } := ⟨kA6, kM6⟩
    refine wp_region_any (by kernel_rfl) (wpAny_of_E (S := fun w' : World => Blk w' A #[.int .i64 N, .slice a1 L c1, .slice a2 L2 c2] 27 ∧ Blk w' M #[.slice b1 p d1, .slice b2 q d2] 32) (l := 6) _ _ _ _ ?_)
    change wpAnyE _ _ _ _ _ _ _ _ _ w6.drew
    refine tkL (i := 0) (v := ?_) rfl (by kernel_rfl) (fun _ _ _ h => h) (.inl ⟨by rfl, ?_⟩) hS ?_
    rotate_left
    · intro w hSw; (try dsimp only at hSw); obtain ⟨hSa, hSb⟩ := hSw; have qA0 := hSa.cell 0; have qA1 := hSa.cell 1; have qA2 := hSa.cell 2; have qM0 := hSb.cell 0; have qM1 := hSb.cell 1; have qA := hSa.cell; have qM := hSb.cell; have lA := hSa.lt; have lM := hSb.lt; go_simp; (try with_reducible rfl)
    refine tkL (i := 1) (v := ?_) rfl (by kernel_rfl) (fun _ _ _ h => h) (.inl ⟨by rfl, ?_⟩) hS ?_
    rotate_left
    · intro w hSw; (try dsimp only at hSw); obtain ⟨hSa, hSb⟩ := hSw; have qA0 := hSa.cell 0; have qA1 := hSa.cell 1; have qA2 := hSa.cell 2; have qM0 := hSb.cell 0; have qM1 := hSb.cell 1; have qA := hSa.cell; have qM := hSb.cell; have lA := hSa.lt; have lM := hSb.lt; go_simp; (try with_reducible rfl)
    refine tkL (i := 3) (v := ?_) rfl (by kernel_rfl) (fun _ _ _ h => h) (.inl ⟨by rfl, ?_⟩) hS ?_
    rotate_left
    · intro w hSw; (try dsimp only at hSw); obtain ⟨hSa, hSb⟩ := hSw; have qA0 := hSa.cell 0; have qA1 := hSa.cell 1; have qA2 := hSa.cell 2; have qM0 := hSb.cell 0; have qM1 := hSb.cell 1; have qA := hSa.cell; have qM := hSb.cell; have lA := hSa.lt; have lM := hSb.lt; go_simp; (try with_reducible rfl)
    try simp only [Act.put, List.setIfInBounds_toArray, List.set_cons_zero, List.set_cons_succ]
    refine wpAnyE_oneL (k := 2) (by kernel_rfl) rfl (fun K hK => ?_)
    go_simp
    go_at_call 30
    refine (HDZ.out _ (HD6.out.by (below_of_drewN w6 1))).mono ?_
    rintro e w7 ⟨v2, x2, rfl, HO7, HS7, HD7, HW7⟩
    obtain ⟨t1, t2, rfl, r1, r2⟩ := HO7.out
    obtain ⟨a5, c5, rfl⟩ : ∃ a c, t1 = .slice a x2.ds.length c := by obtain ⟨_, _, _, o⟩ := r1; exact o.sl.sized
    obtain ⟨a6, c6, rfl⟩ : ∃ a c, t2 = .slice a x2.ps.length c := by obtain ⟨_, _, _, o⟩ := r2; exact o.sl.sized
    have kA7 : Blk w7 A #[.int .i64 N, .slice a1 L c1, .slice a2 L2 c2] 27 := HW7.out.blk (Blk.by (below_of_drewN w6 1) kA6) (by omega)
    have kM7 : Blk w7 M #[.slice b1 p d1, .slice b2 q d2] 32 := HW7.out.blk (Blk.by (below_of_drewN w6 1) kM6) (by omega)
    have HBX7 := Lib.hid ((HBX6.out.by (below_of_drewN w6 1)).past HW7.out (by omega))
    have HAN7 := Lib.hid ((HAN6.out.by (below_of_drewN w6 1)).past HW7.out (by omega))
    have hM6 := kM6.lt
    have HBN7 : Hid (NlA (G + 3) w7 (.agg #[.int .i64 x2.nets, .slice a5 x2.ds.length c5, .slice a6 x2.ps.length c6])) := Lib.hid ⟨x2, HO7.out.low (by show G + 3 ≤ w6.heap.size; omega), HS7.out.2.2.2.2, HS7.out.fits⟩
    have HB7 := Lib.hid HD7.out.2.1
    obtain ⟨N2, eN⟩ : ∃ N, x2.nets = N := ⟨_, rfl⟩
    obtain ⟨L5, eL3⟩ : ∃ L, x2.ds.length = L := ⟨_, rfl⟩
    obtain ⟨L6, eL4⟩ : ∃ L, x2.ps.length = L := ⟨_, rfl⟩
    rw [eN, eL3, eL4] at HBN7 ⊢
    clear r1 r2 HO7 HS7 HD7 HW7 eN eL3 eL4 HAN6 HBX6 kA6 kM6 HD6 hS
    have q2 := HBX7.out.r2.cell
    have f2 := HBX7.out.r2.free
    have l2 := HBX7.out.r2.lt
    have q3 := HBX7.out.r3.cell
    have f3 := HBX7.out.r3.free
    have l3 := HBX7.out.r3.lt
    have q4 := HBX7.out.r4.cell
    have f4 := HBX7.out.r4.free
    have l4 := HBX7.out.r4.lt
    refine hK.out _ _ (fun _ => ⟨kA7, kM7⟩) ?_
    try simp only [Act.put, List.setIfInBounds_toArray, List.set_cons_zero, List.set_cons_succ]
    refine wpAnyE_oneL (k := 4) (by kernel_rfl) rfl (fun K hK => ?_)
    go_simp
    refine hK.out _ _ (fun h => ⟨by with_reducible first | exact kA7 | exact Blk.apart (Blk.apart (Blk.apart (kA7) _ _ _ (by omega)) _ _ _ (by omega)) _ _ _ (by omega), by with_reducible first | exact kM7 | exact Blk.apart (Blk.apart (Blk.apart (kM7) _ _ _ (by omega)) _ _ _ (by omega)) _ _ _ (by omega)⟩) ?_
    try simp only [Act.put, List.setIfInBounds_toArray, List.set_cons_zero, List.set_cons_succ]
    refine wpAnyE_oneL (k := 5) (by kernel_rfl) rfl (fun K hK => ?_)
    go_simp
    refine hK.out _ _ (fun h => ⟨by with_reducible first | exact kA7 | exact Blk.apart (Blk.apart (Blk.apart (Blk.apart (Blk.apart (Blk.apart (kA7) _ _ _ (by omega)) _ _ _ (by omega)) _ _ _ (by omega)) _ _ _ (by omega)) _ _ _ (by omega)) _ _ _ (by omega), by with_reducible first | exact kM7 | exact Blk.apart (Blk.apart (Blk.apart (Blk.apart (Blk.apart (Blk.apart (kM7) _ _ _ (by omega)) _ _ _ (by omega)) _ _ _ (by omega)) _ _ _ (by omega)) _ _ _ (by omega)) _ _ _ (by omega)⟩) ?_
    try simp only [Act.put, List.setIfInBounds_toArray, List.set_cons_zero, List.set_cons_succ]
    refine wpAnyE_oneL (k := 6) (by kernel_rfl) rfl (fun K hK => ?_)
    go_simp
    refine hK.out _ _ (fun h => absurd rfl h) ?_
    refine wpAnyE_done (by kernel_rfl) ?_ _
    go_wp2
    refine bodyPost_ret (v := .tuple #[.agg #[.int .i64 N, .slice a1 L c1, .slice a2 L2 c2], .agg #[.int .i64 N2, .slice a5 L5 c5, .slice a6 L6 c6], .agg #[.slice b1 p d1, .slice b2 q d2]]) (by simp [results, Tryz.results10, go_sem, *]) rfl ?_
    refine ⟨_, _, _, rfl, ⟨_, _, _, _, _, _, rfl⟩, Lib.hid ?_, Lib.hid ?_, ?_⟩
    · have h1 := HAN7.out
      refine NlA.low (m := G + 3) ?_ (by omega)
      repeat (first | (with_reducible refine NlA.past (Within.off _) ?_ ?_; rotate_left; omega) | with_reducible refine NlA.drew ?_ | with_reducible refine NlA.drewN ?_ _)
      with_reducible exact h1
    · have h1 := HBN7.out
      refine NlA.low (m := G + 3) ?_ (by omega)
      repeat (first | (with_reducible refine NlA.past (Within.off _) ?_ ?_; rotate_left; omega) | with_reducible refine NlA.drew ?_ | with_reducible refine NlA.drewN ?_ _)
      with_reducible exact h1
    · have hb := HB7.out
      ((repeat (first | (with_reducible exact Below.refl _ _) | (with_reducible refine below_drewN ?_ _) | (with_reducible refine Below.drew ?_) | (with_reducible refine below_al ?_ _) | (with_reducible refine below_on (by assumption) ?_) | ((with_reducible refine Below.setCell ?_ ?_ _); rotate_left; focus (first | omega | (simp; done) | (simp; omega))) | (with_reducible assumption))); done)
set_option maxRecDepth 100000 in
set_option maxHeartbeats 8000000 in
theorem drawMt_any (v0 : Value) (n : Nat) (w : World) (h : Bytes w v0 n) (hn : n ≤ 4096) :
    Calls Tryz.prog 5 #[v0] w fun e w' => ∃ v u : Value, e = .returned (.tuple #[v, u]) ∧ Hid (NlA w.heap.size w' v) ∧ Hid (NlA w.heap.size w' u) ∧ Below w.heap.size w w' := by
  have HB := Lib.hid h
  obtain ⟨w0, hw0⟩ : ∃ z, z = (w.alloc (.cells #[.int .i64 0, .slice none 0 0, .slice none 0 0] 27)).alloc (.cells #[.int .i64 0, .slice none 0 0, .slice none 0 0] 27) := ⟨_, rfl⟩
  have kR0 : Blk w0 w.heap.size #[.int .i64 0, .slice none 0 0, .slice none 0 0] 27 := by rw [hw0]; exact (Blk.new _ rfl).past _
  have kS0 : Blk w0 (w.heap.size + 1) #[.int .i64 0, .slice none 0 0, .slice none 0 0] 27 := by rw [hw0]; exact Blk.new _ (by simp)
  have hb0 : Below w.heap.size w w0 := by rw [hw0]; exact ((Below.refl _ w).alloc (Nat.le_refl _) _).alloc (by simp) _
  have hs0 : w.heap.size + 2 ≤ w0.heap.size := by rw [hw0]; simp
  have hf := l01From_any v0 n w0 (HB.out.by hb0) hn
  obtain ⟨G, hG⟩ : ∃ G, w0.heap.size = G := ⟨_, rfl⟩
  rw [hG] at hf hs0
  have HDP := Lib.hid (fun w h => l30DrawPair_any w0 G v0 n w h)
  have HF := Lib.hid hf
  have HG := Lib.hid hG
  clear h hf hG
  go_enter Tryz.func5, Tryz.ntmps5
  go_wp2_with fail
  (try rw [← hw0])
  clear hw0
  refine HF.out.mono ?_
  rintro e w1 ⟨rfl, hD1, hb1⟩
  have HD1 := Lib.hid hD1
  have hl1 := hD1.lt
  clear hb1 hD1
  go_wp2_with fail
  refine (HDP.out _ HD1.out).mono ?_
  rintro e w2 ⟨v, u, tm, rfl, ⟨b1, p, d1, b2, q, d2, rfl⟩, HV, HU, hb2⟩
  obtain ⟨x, hx, hx2⟩ := HV.out
  obtain ⟨y, hy, hy2⟩ := HU.out
  obtain ⟨a1, c1, a2, c2, rfl⟩ := hx.nl.sized
  obtain ⟨a3, c3, a4, c4, rfl⟩ := hy.nl.sized
  have HX := Lib.hid (show NlA (w.heap.size + 2) w2 _ from ⟨x, hx.low (by omega), hx2⟩)
  have HY := Lib.hid (show NlA (w.heap.size + 2) w2 _ from ⟨y, hy.low (by omega), hy2⟩)
  obtain ⟨N, eN⟩ : ∃ N, x.nets = N := ⟨_, rfl⟩
  obtain ⟨L1, eL1⟩ : ∃ L, x.ds.length = L := ⟨_, rfl⟩
  obtain ⟨L2, eL2⟩ : ∃ L, x.ps.length = L := ⟨_, rfl⟩
  obtain ⟨NY, fN⟩ : ∃ N, y.nets = N := ⟨_, rfl⟩
  obtain ⟨L3, fL1⟩ : ∃ L, y.ds.length = L := ⟨_, rfl⟩
  obtain ⟨L4, fL2⟩ : ∃ L, y.ps.length = L := ⟨_, rfl⟩
  rw [eN, eL1, eL2] at HX ⊢
  rw [fN, fL1, fL2] at HY ⊢
  have kR2 := Blk.by hb2 kR0
  have kS2 := Blk.by hb2 kS0
  have hbw := below_on hb2 hb0
  have h2s := hb2.size
  clear HV HU hx hy hx2 hy2 eN eL1 eL2 fN fL1 fL2 hb2 hb0 kR0 kS0 HDP HF HD1
  obtain ⟨w5, hw5⟩ : ∃ z, z = ((w2.alloc (.cells #[.int .i64 N, .slice a1 L1 c1, .slice a2 L2 c2] 27)).alloc (.cells #[.int .i64 NY, .slice a3 L3 c3, .slice a4 L4 c4] 27)).alloc (.cells #[.slice b1 p d1, .slice b2 q d2] 32) := ⟨_, rfl⟩
  have hal : Below w2.heap.size w2 w5 := by rw [hw5]; exact (((Below.refl _ w2).alloc (Nat.le_refl _) _).alloc (by simp) _).alloc (by simp; omega) _
  have kA : Blk w5 w2.heap.size #[.int .i64 N, .slice a1 L1 c1, .slice a2 L2 c2] 27 := by rw [hw5]; exact ((Blk.new _ rfl).past _).past _
  have kB : Blk w5 (w2.heap.size + 1) #[.int .i64 NY, .slice a3 L3 c3, .slice a4 L4 c4] 27 := by rw [hw5]; exact (Blk.new _ (by simp)).past _
  have kR5 := Blk.by hal kR2
  have kS5 := Blk.by hal kS2
  have HX5 := Lib.hid (HX.out.by hal)
  have HY5 := Lib.hid (HY.out.by hal)
  have hb5 := below_on hal hbw
  have HW5 := Lib.hid hw5
  clear hal kR2 kS2 HX HY hbw hw5
  go_upto_region 2 with fail
  rw [← HW5.out]
  clear HW5
  have hA2 : w.heap.size + 2 ≤ w2.heap.size := by have := HG.out; omega
  generalize w2.heap.size = A at *
  have kA9 : Blk w5.drew A #[.int .i64 N, .slice a1 L1 c1, .slice a2 L2 c2] 27 := kA
  have kB9 : Blk w5.drew (A + 1) #[.int .i64 NY, .slice a3 L3 c3, .slice a4 L4 c4] 27 := kB
  have hS : (fun w' : World => Blk w' A #[.int .i64 N, .slice a1 L1 c1, .slice a2 L2 c2] 27 ∧ Blk w' (A + 1) #[.int .i64 NY, .slice a3 L3 c3, .slice a4 L4 c4] 27) { w5 with drawn := w5.drawn + 1 } := ⟨kA9, kB9⟩
  refine wp_region_any (by kernel_rfl) (wpAny_of_E (S := fun w' : World => Blk w' A #[.int .i64 N, .slice a1 L1 c1, .slice a2 L2 c2] 27 ∧ Blk w' (A + 1) #[.int .i64 NY, .slice a3 L3 c3, .slice a4 L4 c4] 27) (l := 3) _ _ _ _ ?_)
  change wpAnyE _ _ _ _ _ _ _ _ _ w5.drew
  refine tkL (i := 0) (v := ?_) rfl (by kernel_rfl) (fun _ _ _ h => h) (.inl ⟨by rfl, ?_⟩) hS ?_
  rotate_left
  · intro w hSw; (try dsimp only at hSw); obtain ⟨hSa, hSb⟩ := hSw; have qA := hSa.cell; have qB := hSb.cell; have lA := hSa.lt; have lB := hSb.lt; go_simp; (try with_reducible rfl)
  refine tkL (i := 1) (v := ?_) rfl (by kernel_rfl) (fun _ _ _ h => h) (.inl ⟨by rfl, ?_⟩) hS ?_
  rotate_left
  · intro w hSw; (try dsimp only at hSw); obtain ⟨hSa, hSb⟩ := hSw; have qA := hSa.cell; have qB := hSb.cell; have lA := hSa.lt; have lB := hSb.lt; go_simp; (try with_reducible rfl)
  try simp only [Act.put, List.setIfInBounds_toArray, List.set_cons_zero, List.set_cons_succ]
  have q2 : ∀ o, w5.drew.cell? ⟨w.heap.size, o, none⟩ = _ := kR5.cell
  have f2 : ∀ o, w5.drew.frozen? ⟨w.heap.size, o, none⟩ = false := kR5.free
  have l2 : w.heap.size < w5.drew.heap.size := kR5.lt
  have q3 : ∀ o, w5.drew.cell? ⟨w.heap.size + 1, o, none⟩ = _ := kS5.cell
  have f3 : ∀ o, w5.drew.frozen? ⟨w.heap.size + 1, o, none⟩ = false := kS5.free
  have l3 : w.heap.size + 1 < w5.drew.heap.size := kS5.lt
  have HX6 := Lib.hid HX5.out.drew
  have HY6 := Lib.hid HY5.out.drew
  have hb6 := hb5.drew
  clear kA kB kR5 kS5 HX5 HY5 hb5 hS
  generalize w5.drew = wz at *
  refine wpAnyE_oneL (k := 2) (by kernel_rfl) rfl (fun K hK => ?_)
  go_simp
  refine hK.out _ _ (fun h => ⟨Blk.apart (Blk.apart (Blk.apart (kA9) _ _ _ (by omega)) _ _ _ (by omega)) _ _ _ (by omega), Blk.apart (Blk.apart (Blk.apart (kB9) _ _ _ (by omega)) _ _ _ (by omega)) _ _ _ (by omega)⟩) ?_
  try simp only [Act.put, List.setIfInBounds_toArray, List.set_cons_zero, List.set_cons_succ]
  refine wpAnyE_oneL (k := 3) (by kernel_rfl) rfl (fun K hK => ?_)
  go_simp
  refine hK.out _ _ (fun h => absurd rfl h) ?_
  refine wpAnyE_done (by kernel_rfl) ?_ _
  go_wp2
  refine bodyPost_ret (v := .tuple #[.agg #[.int .i64 N, .slice a1 L1 c1, .slice a2 L2 c2], .agg #[.int .i64 NY, .slice a3 L3 c3, .slice a4 L4 c4]]) (by simp [results, Tryz.results5, go_sem, *]) rfl ⟨_, _, rfl, Lib.hid ?_, Lib.hid ?_, ?_⟩
  · have h1 := HX6.out
    refine NlA.low (m := w.heap.size + 2) ?_ (by omega)
    repeat (first | (with_reducible refine NlA.past (Within.off _) ?_ ?_; rotate_left; omega) | with_reducible refine NlA.drew ?_ | with_reducible refine NlA.drewN ?_ _)
    with_reducible exact h1
  · have h1 := HY6.out
    refine NlA.low (m := w.heap.size + 2) ?_ (by omega)
    repeat (first | (with_reducible refine NlA.past (Within.off _) ?_ ?_; rotate_left; omega) | with_reducible refine NlA.drew ?_ | with_reducible refine NlA.drewN ?_ _)
    with_reducible exact h1
  · have hb := hb6
    ((repeat (first | (with_reducible exact Below.refl _ _) | (with_reducible refine below_drewN ?_ _) | (with_reducible refine Below.drew ?_) | (with_reducible refine below_al ?_ _) | (with_reducible refine below_on (by assumption) ?_) | ((with_reducible refine Below.setCell ?_ ?_ _); rotate_left; focus (first | omega | (simp; done) | (simp; omega))) | (with_reducible assumption))); done)
instance Dv.dec : DecidableEq Dv := fun a b => decidable_of_iff (a.kind = b.kind ∧ a.pins = b.pins ∧ a.wd = b.wd ∧ a.len = b.len) ⟨fun h => by cases a; cases b; simp_all, fun h => by subst h; simp⟩
def nzD (d : Dv) : Dv := ⟨d.kind, normz d.kind d.pins, d.wd, d.len⟩
def Two (d : Dv) : Prop := (d.kind = 2 ∧ ∃ a b, d.pins = [a, b]) ∨ ((d.kind = 0 ∨ d.kind = 1) ∧ ∃ g a b, d.pins = [g, a, b])
theorem dvB_Two {nets : Int} {d : Dv} (h : dvB nets d = true) : Two d := by
  have h1 := inB_iff.1 (dvB_all h).1
  rcases pinsOf_two h with ⟨k, h⟩ | ⟨k, h⟩
  · exact .inl ⟨k, h⟩
  · exact .inr ⟨by omega, h⟩
theorem Two.ren {d : Dv} (h : Two d) (f : List Int) : Two (renD f d) := by
  rcases h with ⟨k, a, b, e⟩ | ⟨k, g, a, b, e⟩
  · exact .inl ⟨k, _, _, by simp [renD, e]; exact ⟨rfl, rfl⟩⟩
  · exact .inr ⟨k, _, _, _, by simp [renD, e]; exact ⟨rfl, rfl, rfl⟩⟩
theorem nz_two {kind a b : Int} (h : kind = 2) : normz kind [a, b] = [min a b, max a b] := by
  subst h; simp [normz, pinc, lastTwo]
theorem nz_three {kind g a b : Int} (h : kind = 0 ∨ kind = 1) : normz kind [g, a, b] = [g, min a b, max a b] := by
  rcases h with rfl | rfl <;> simp [normz, pinc, lastTwo]
theorem mm_fix (f : Int → Int) (a b : Int) : min (f (min a b)) (f (max a b)) = min (f a) (f b) ∧ max (f (min a b)) (f (max a b)) = max (f a) (f b) := by
  by_cases h : a ≤ b
  · rw [show min a b = a by omega, show max a b = b by omega]; exact ⟨rfl, rfl⟩
  · rw [show min a b = b by omega, show max a b = a by omega]; omega
theorem nz_ren (f : List Int) {d : Dv} (h : Two d) : nzD (renD f (nzD d)) = nzD (renD f d) := by
  obtain ⟨kind, pins, wd, len⟩ := d
  rcases h with ⟨k, a, b, e⟩ | ⟨k, g, a, b, e⟩
  · dsimp only at k e; subst e
    simp only [nzD, renD, nz_two k, List.map_cons, List.map_nil, (mm_fix (nmOf f) a b).1, (mm_fix (nmOf f) a b).2]
  · dsimp only at k e; subst e
    simp only [nzD, renD, nz_three k, List.map_cons, List.map_nil, (mm_fix (nmOf f) a b).1, (mm_fix (nmOf f) a b).2]
theorem nz_all (P : Int → Bool) {d : Dv} (h : Two d) : (nzD d).pins.all P = d.pins.all P := by
  obtain ⟨kind, pins, wd, len⟩ := d
  have c : ∀ a b : Int, (P (min a b) && P (max a b)) = (P a && P b) := fun a b => by
    by_cases h : a ≤ b
    · rw [show min a b = a by omega, show max a b = b by omega]
    · rw [show min a b = b by omega, show max a b = a by omega, Bool.and_comm]
  rcases h with ⟨k, a, b, e⟩ | ⟨k, g, a, b, e⟩
  · dsimp only at k e; subst e
    simp only [nzD, nz_two k, List.all_cons, List.all_nil, Bool.and_true, c]
  · dsimp only at k e; subst e
    simp only [nzD, nz_three k, List.all_cons, List.all_nil, Bool.and_true, c]
theorem nz_eqv {p : List Int} {d e : Dv} (hd : Two d) (he : Two e) : nzD (renD p d) = nzD e ↔ DvEqv p d e := by
  obtain ⟨k1, p1, w1, l1⟩ := d
  obtain ⟨k2, p2, w2, l2⟩ := e
  have mm : ∀ a b c d : Int, (min a b = min c d ∧ max a b = max c d) ↔ ((c = a ∧ d = b) ∨ (c = b ∧ d = a)) := fun a b c d => by omega
  unfold DvEqv
  rcases hd with ⟨h1, a, b, e1⟩ | ⟨h1, g, a, b, e1⟩ <;> rcases he with ⟨h2, c, d, e2⟩ | ⟨h2, f, c, d, e2⟩ <;> dsimp only at h1 h2 e1 e2 <;> subst e1 <;> subst e2
  · simp only [nzD, renD, nz_two h1, nz_two h2, List.map_cons, List.map_nil, Dv.mk.injEq, List.cons.injEq, and_true, reduceCtorEq, false_and, exists_false, or_false, and_false]
    have := mm (nmOf p a) (nmOf p b) c d
    constructor
    · rintro ⟨q1, q2, q3, q4⟩
      refine ⟨q1.symm, q3.symm, q4.symm, ?_⟩
      rcases this.1 q2 with q | q
      · exact .inl q
      · exact .inr ⟨a, b, ⟨rfl, rfl⟩, q⟩
    · rintro ⟨q1, q2, q3, q4⟩
      refine ⟨q1.symm, this.2 ?_, q2.symm, q3.symm⟩
      rcases q4 with q | ⟨a', b', ⟨rfl, rfl⟩, q⟩
      · exact .inl q
      · exact .inr q
  · constructor
    · intro q
      have : k1 = k2 := by have := congrArg Dv.kind q; simpa [nzD, renD] using this
      omega
    · rintro ⟨q, _⟩
      dsimp only at q; omega
  · constructor
    · intro q
      have : k1 = k2 := by have := congrArg Dv.kind q; simpa [nzD, renD] using this
      omega
    · rintro ⟨q, _⟩
      dsimp only at q; omega
  · simp only [nzD, renD, nz_three h1, nz_three h2, List.map_cons, List.map_nil, Dv.mk.injEq, List.cons.injEq, and_true, reduceCtorEq, false_and, exists_false, false_or, and_false]
    have := mm (nmOf p a) (nmOf p b) c d
    constructor
    · rintro ⟨q1, ⟨q5, q2⟩, q3, q4⟩
      refine ⟨q1.symm, q3.symm, q4.symm, ?_⟩
      rcases this.1 q2 with q | q
      · exact .inl ⟨q5.symm, q⟩
      · exact .inr ⟨g, a, b, ⟨rfl, rfl, rfl⟩, q5.symm, q⟩
    · rintro ⟨q1, q2, q3, q4⟩
      rcases q4 with ⟨q5, q⟩ | ⟨g', a', b', ⟨rfl, rfl, rfl⟩, q5, q⟩
      · exact ⟨q1.symm, ⟨q5.symm, this.2 (.inl q)⟩, q2.symm, q3.symm⟩
      · exact ⟨q1.symm, ⟨q5.symm, this.2 (.inr q)⟩, q2.symm, q3.symm⟩
def inD (names : List Int) (d : Dv) : Bool := d.pins.all fun p => decide (0 ≤ nmOf names p)
def innerS (ds : List Dv) (names : List Int) : List Dv := srtD ((ds.filter (inD names)).map fun d => nzD (renD names d))
def lefTo (n : Nat) : Nat → List Int
  | 0 => List.replicate n (-1)
  | i + 1 => (lefTo n i).set i (i : Int)
def rigTo (n : Nat) (nets : List Int) : Nat → List Int
  | 0 => List.replicate n (-1)
  | i + 1 => (rigTo n nets i).set (nmOf nets (i : Int)).toNat (i : Int)
theorem length_lefTo (n : Nat) : ∀ i, (lefTo n i).length = n
  | 0 => by simp [lefTo]
  | i + 1 => by rw [lefTo, List.length_set]; exact length_lefTo n i
theorem length_rigTo (n : Nat) (nets : List Int) : ∀ i, (rigTo n nets i).length = n
  | 0 => by simp [rigTo]
  | i + 1 => by rw [rigTo, List.length_set]; exact length_rigTo n nets i
theorem lefTo_get (n : Nat) : ∀ (m k : Nat), k < n → (lefTo n m)[k]? = some (if k < m then (k : Int) else -1)
  | 0, k, h => by simp [lefTo, h]
  | m + 1, k, h => by
    rw [lefTo, List.getElem?_set, length_lefTo]
    by_cases e : m = k
    · subst e; simp [h]
    · rw [if_neg e, lefTo_get n m k h]
      congr 1
      by_cases q : k < m
      · rw [if_pos q, if_pos (by omega)]
      · rw [if_neg q, if_neg (by omega)]
theorem nm_lefTo {n m : Nat} {p : Int} (h0 : 0 ≤ p) (h1 : p < n) : nmOf (lefTo n m) p = if p < m then p else -1 := by
  unfold nmOf
  rw [List.getD_eq_getElem?_getD, lefTo_get n m p.toNat (by omega)]
  show (if p.toNat < m then ((p.toNat : Nat) : Int) else -1) = _
  by_cases q : p < m
  · rw [if_pos q, if_pos (by omega)]; omega
  · rw [if_neg q, if_neg (by omega)]
def goodN (n : Nat) (nets : List Int) : Prop := nets.Nodup ∧ ∀ z ∈ nets, 0 ≤ z ∧ z < (n : Int)
theorem nm_get {zs : List Int} {i : Nat} (h : i < zs.length) : zs[i]? = some (nmOf zs (i : Int)) := by
  unfold nmOf; rw [Int.toNat_natCast, List.getD_eq_getElem?_getD, List.getElem?_eq_getElem h]; rfl
theorem goodN.at_ {n : Nat} {nets : List Int} (h : goodN n nets) {i : Nat} (hi : i < nets.length) : 0 ≤ nmOf nets (i : Int) ∧ nmOf nets (i : Int) < n := h.2 _ (List.mem_of_getElem? (nm_get hi))
theorem goodN.inj {n : Nat} {nets : List Int} (h : goodN n nets) {i j : Nat} (hi : i < nets.length) (hj : j < nets.length) (e : nmOf nets (i : Int) = nmOf nets (j : Int)) : i = j := by
  have a := nm_get hi
  have b := nm_get hj
  rw [← e] at b
  exact (List.getElem?_inj hi h.1).1 (a.trans b.symm)
theorem rigTo_get {n : Nat} {nets : List Int} (h : goodN n nets) : ∀ (m k : Nat), m ≤ nets.length → k < n → (∀ i, i < m → nmOf nets (i : Int) = (k : Int) → (rigTo n nets m)[k]? = some (i : Int)) ∧ ((∀ i, i < m → ¬ nmOf nets (i : Int) = (k : Int)) → (rigTo n nets m)[k]? = some (-1))
  | 0, k, hm, hk => by simp [rigTo, hk]
  | m + 1, k, hm, hk => by
    obtain ⟨h1, h2⟩ := rigTo_get h m k (by omega) hk
    have a := h.at_ (i := m) (by omega)
    constructor
    · intro i hi e
      rw [rigTo, List.getElem?_set, length_rigTo]
      by_cases q : i = m
      · subst q; rw [if_pos (by omega), if_pos (by omega)]
      · rw [if_neg (fun e2 => q (h.inj (by omega) (by omega) (by omega)))]
        exact h1 i (by omega) e
    · intro hn
      rw [rigTo, List.getElem?_set, length_rigTo, if_neg (fun e2 => hn m (by omega) (by omega))]
      exact h2 (fun i hi => hn i (by omega))
theorem nm_rig {n : Nat} {nets : List Int} (h : goodN n nets) {i : Nat} (hi : i < nets.length) : nmOf (rigTo n nets nets.length) (nmOf nets (i : Int)) = i := by
  have a := h.at_ hi
  have := (rigTo_get h nets.length (nmOf nets (i : Int)).toNat (Nat.le_refl _) (by omega)).1 i hi (by omega)
  unfold nmOf at this ⊢
  rw [List.getD_eq_getElem?_getD, this]; rfl
theorem nm_rig_no {n : Nat} {nets : List Int} (h : goodN n nets) {k : Int} (h0 : 0 ≤ k) (h1 : k < n) (hk : ¬ k ∈ nets) : nmOf (rigTo n nets nets.length) k = -1 := by
  have := (rigTo_get h nets.length k.toNat (Nat.le_refl _) (by omega)).2 (fun i hi e => hk (by have := List.mem_of_getElem? (nm_get hi); rw [e] at this; rwa [Int.toNat_of_nonneg h0] at this))
  unfold nmOf
  rw [List.getD_eq_getElem?_getD, this]; rfl
theorem mem_nm {nets : List Int} {k : Int} (h : k ∈ nets) : ∃ i, i < nets.length ∧ nmOf nets (i : Int) = k := by
  obtain ⟨i, hi, e⟩ := List.mem_iff_getElem.1 h
  refine ⟨i, hi, ?_⟩
  have := nm_get hi
  rw [List.getElem?_eq_getElem hi, e] at this
  exact (Option.some.inj this).symm
theorem rig_pos {n : Nat} {nets : List Int} (h : goodN n nets) {k : Int} (h0 : 0 ≤ k) (h1 : k < n) : decide (0 ≤ nmOf (rigTo n nets nets.length) k) = nets.contains k := by
  by_cases hk : k ∈ nets
  · obtain ⟨i, hi, e⟩ := mem_nm hk
    have : nmOf (rigTo n nets nets.length) k = i := by rw [← e]; exact nm_rig h hi
    rw [this]; simp [hk]
  · rw [nm_rig_no h h0 h1 hk]; simp [hk]
def prtLR (ps qs : List Pt) (left right : List Int) (i : Nat) : Bool :=
  match ps[i]?, qs[i]? with
  | some p, some q => decide (nmOf left p.net = nmOf right q.net)
  | _, _ => false
def fitB (x y : Nl) (nets : List Int) : Bool :=
  allB (prtLR x.ps y.ps (lefTo x.nets.toNat nets.length) (rigTo y.nets.toNat nets nets.length)) x.ps.length &&
  decide (innerS x.ds (lefTo x.nets.toNat nets.length) = innerS y.ds (rigTo y.nets.toNat nets nets.length))
def fitI (x y : Nl) (nets : List Int) : Bool :=
  decide (srtD ((x.ds.filter fun d => d.pins.all fun p => decide (p < (nets.length : Int))).map fun d => nzD (renD nets d)) = srtD ((y.ds.map nzD).filter fun d => d.pins.all fun p => nets.contains p))
theorem srtD_eq {a b : List Dv} : srtD a = srtD b ↔ a.Perm b := by
  constructor
  · intro h
    have := srtD_perm a
    rw [h] at this
    exact this.symm.trans (srtD_perm b)
  · intro h
    exact srtD_of ((srtD_perm a).trans h) (srtD_pairwise a)
theorem filter_cong {α : Type} {p q : α → Bool} {l : List α} (h : ∀ a ∈ l, p a = q a) : l.filter p = l.filter q := List.filter_congr h
theorem fit_same {x y : Nl} {nets : List Int} {n : Nat} (hx : ∀ d ∈ x.ds, dvB (n : Int) d = true) (hy : ∀ d ∈ y.ds, dvB (n : Int) d = true) (hg : goodN n nets) :
    decide (innerS x.ds (lefTo n nets.length) = innerS y.ds (rigTo n nets nets.length)) = fitI x y nets := by
  unfold fitI innerS
  have e1 : x.ds.filter (inD (lefTo n nets.length)) = x.ds.filter fun d => d.pins.all fun p => decide (p < (nets.length : Int)) := filter_cong (fun d hd => by
    unfold inD
    rw [Bool.eq_iff_iff, List.all_eq_true, List.all_eq_true]
    constructor
    · intro h p hp
      have b := dvB_in (hx d hd) hp
      have := h p hp
      rw [nm_lefTo b.1 b.2] at this
      by_cases q : p < (nets.length : Int)
      · simpa using q
      · rw [if_neg q] at this; simp at this
    · intro h p hp
      have b := dvB_in (hx d hd) hp
      have q : p < (nets.length : Int) := by simpa using h p hp
      rw [nm_lefTo b.1 b.2, if_pos q]; simpa using b.1)
  have e2 : y.ds.filter (inD (rigTo n nets nets.length)) = y.ds.filter fun d => d.pins.all fun p => nets.contains p := filter_cong (fun d hd => by
    unfold inD
    rw [Bool.eq_iff_iff, List.all_eq_true, List.all_eq_true]
    constructor
    · intro h p hp
      have b := dvB_in (hy d hd) hp
      rw [← rig_pos hg b.1 b.2]; exact h p hp
    · intro h p hp
      have b := dvB_in (hy d hd) hp
      have := h p hp
      rw [← rig_pos hg b.1 b.2] at this; exact this)
  rw [e1, e2]
  have e3 : (y.ds.map nzD).filter (fun d => d.pins.all fun p => nets.contains p) = (y.ds.filter fun d => d.pins.all fun p => nets.contains p).map nzD := by
    rw [List.filter_map]
    congr 1
    exact filter_cong (fun d hd => nz_all _ (dvB_Two (hy d hd)))
  rw [e3]
  obtain ⟨F, hF⟩ : ∃ F, (x.ds.filter fun d => d.pins.all fun p => decide (p < (nets.length : Int))) = F := ⟨_, rfl⟩
  obtain ⟨G, hG⟩ : ∃ G, (y.ds.filter fun d => d.pins.all fun p => nets.contains p) = G := ⟨_, rfl⟩
  have kF : ∀ d ∈ F, Two d ∧ ∀ p ∈ d.pins, 0 ≤ p ∧ p < (n : Int) ∧ p < (nets.length : Int) := fun d hd => by
    rw [← hF, List.mem_filter] at hd
    have := List.all_eq_true.1 hd.2
    exact ⟨dvB_Two (hx d hd.1), fun p hp => ⟨(dvB_in (hx d hd.1) hp).1, (dvB_in (hx d hd.1) hp).2, by simpa using this p hp⟩⟩
  have kG : ∀ d ∈ G, Two d ∧ ∀ p ∈ d.pins, 0 ≤ p ∧ p < (n : Int) ∧ p ∈ nets := fun d hd => by
    rw [← hG, List.mem_filter] at hd
    have := List.all_eq_true.1 hd.2
    exact ⟨dvB_Two (hy d hd.1), fun p hp => ⟨(dvB_in (hy d hd.1) hp).1, (dvB_in (hy d hd.1) hp).2, by simpa using this p hp⟩⟩
  rw [hF, hG]
  have renId : ∀ (f : List Int) (d : Dv), (∀ p ∈ d.pins, nmOf f p = p) → renD f d = d := fun f d h => by
    obtain ⟨k, ps, wd, ln⟩ := d
    unfold renD
    dsimp only at h ⊢
    rw [List.map_congr_left (g := id) h, List.map_id]
  have e4 : F.map (fun d => nzD (renD (lefTo n nets.length) d)) = F.map nzD := List.map_congr_left (fun d hd => by
    rw [renId _ d (fun p hp => by have := (kF d hd).2 p hp; rw [nm_lefTo this.1 this.2.1, if_pos this.2.2])])
  rw [e4]
  have renren : ∀ (f g : List Int) (d : Dv), renD f (renD g d) = ⟨d.kind, d.pins.map (fun p => nmOf f (nmOf g p)), d.wd, d.len⟩ := fun f g d => by
    simp [renD, Function.comp_def]
  have cG : ∀ d ∈ G, nzD (renD nets (nzD (renD (rigTo n nets nets.length) d))) = nzD d := fun d hd => by
    rw [nz_ren _ ((kG d hd).1.ren _), renren]
    congr 1
    obtain ⟨k, ps, wd, ln⟩ := d
    have : ps.map (fun p => nmOf nets (nmOf (rigTo n nets nets.length) p)) = ps := by
      rw [List.map_congr_left (g := id) (fun p hp => ?_), List.map_id]
      obtain ⟨i, hi, e⟩ := mem_nm ((kG _ hd).2 p hp).2.2
      rw [← e, nm_rig hg hi]; rfl
    simp only [this]
  have cF : ∀ d ∈ F, nzD (renD (rigTo n nets nets.length) (nzD (renD nets d))) = nzD d := fun d hd => by
    rw [nz_ren _ ((kF d hd).1.ren _), renren]
    congr 1
    obtain ⟨k, ps, wd, ln⟩ := d
    have : ps.map (fun p => nmOf (rigTo n nets nets.length) (nmOf nets p)) = ps := by
      rw [List.map_congr_left (g := id) (fun p hp => ?_), List.map_id]
      have b := (kF _ hd).2 p hp
      have := nm_rig hg (i := p.toNat) (by omega)
      rw [Int.toNat_of_nonneg b.1] at this
      exact this
    simp only [this]
  have hiff : (srtD (F.map nzD) = srtD (G.map fun d => nzD (renD (rigTo n nets nets.length) d))) ↔ (srtD (F.map fun d => nzD (renD nets d)) = srtD (G.map nzD)) := by
    rw [srtD_eq, srtD_eq]
    constructor
    · intro h
      have h2 := h.map (fun d => nzD (renD nets d))
      rw [List.map_map, List.map_map] at h2
      rw [show F.map ((fun d => nzD (renD nets d)) ∘ nzD) = F.map (fun d => nzD (renD nets d)) from List.map_congr_left (fun d hd => nz_ren _ (kF d hd).1)] at h2
      rw [show G.map ((fun d => nzD (renD nets d)) ∘ fun d => nzD (renD (rigTo n nets nets.length) d)) = G.map nzD from List.map_congr_left (fun d hd => cG d hd)] at h2
      exact h2
    · intro h
      have h2 := h.map (fun d => nzD (renD (rigTo n nets nets.length) d))
      rw [List.map_map, List.map_map] at h2
      rw [show F.map ((fun d => nzD (renD (rigTo n nets nets.length) d)) ∘ fun d => nzD (renD nets d)) = F.map nzD from List.map_congr_left (fun d hd => cF d hd)] at h2
      rw [show G.map ((fun d => nzD (renD (rigTo n nets nets.length) d)) ∘ nzD) = G.map (fun d => nzD (renD (rigTo n nets nets.length) d)) from List.map_congr_left (fun d hd => nz_ren _ (kG d hd).1)] at h2
      exact h2
  exact decide_eq_decide.2 hiff
end Go.Proofs.YtehmiekendkjmaaGreat
