/- The draw of a network: any network with few resistors. -/
import Derived.Test.YtjolkdckhmmenaaNw
import Derived.Test.YtjolkdckhmmenaaSrc
import Derived.Test.YtjolkdckhmmenaaBase
import Derived.Test.YtjolkdckhmmenaaValid0
import Derived.Test.YtjolkdckhmmenaaRLaw
import Derived.Deep.RegionHeldLaw
namespace Go.Proofs.Ytjolkdckhmmenaa
open Go.RowKit
set_option linter.unusedVariables false
set_option linter.unusedSimpArgs false

theorem Only.within2 {g : Nat} {w w' : World} (h : Only g w w') : Within g (g + 1) w w' := ⟨h.os, h.tape, h.output, Nat.le_of_eq h.size.symm, fun k _ hne => h.block k (by omega)⟩
theorem BldRes.only {g : Nat} {w w' : World} {lo hi : Nat} {v : Value} {zs : List Res} (ho : Only g w w') (h : BldRes w lo hi v zs) (hg : g < lo) : BldRes w' lo hi v zs := BldRes.past ho.within2 h (.inl (by omega))
theorem wrap_i64 (n : Int) (h1 : -9223372036854775808 ≤ n) (h2 : n ≤ 9223372036854775807) : IntKind.i64.wrap n = n := by simp [IntKind.wrap, IntKind.bits, IntKind.signed]; omega

theorem Within.below2 {lo hi : Nat} {a w w' : World} (h : Within lo hi a w) (hb : Below w.heap.size w w') (hh : a.heap.size ≤ w.heap.size) : Within lo hi a w' :=
  ⟨hb.os.trans h.os, hb.tape.trans h.tape, hb.output.trans h.output, Nat.le_trans h.size hb.size, fun k hk hne => (hb.block k (by omega)).trans (h.block k hk hne)⟩

theorem Src1.within9 {W0 w w1 : World} {g n lo hi : Nat} {sv : Value} (hb : Within lo hi w w1) (h : Src1 W0 g sv n w) (hg : g < lo) (hlo : W0.heap.size ≤ lo) : Src1 W0 g sv n w1 := by
  obtain ⟨h1, h2, h3, h4, i, x, h5, h6, h7, h8⟩ := h
  exact ⟨h1, hb.below h2 hlo, h3, h4, i, x, h5, h6, h7, hb.blk h8 (.inl hg)⟩
theorem Within.newer9 {a w w' : World} {lo hi lo' hi' : Nat} (h : Within lo hi a w) (h' : Within lo' hi' w w') (hl : a.heap.size ≤ lo') : Within lo hi a w' :=
  ⟨h'.os.trans h.os, h'.tape.trans h.tape, h'.output.trans h.output, Nat.le_trans h.size h'.size, fun k hk hne => (h'.block k (by have := h.size; omega) (.inl (by omega))).trans (h.block k hk hne)⟩

theorem res_ok (a z n d : Int) (h1 : -9000 ≤ a ∧ a ≤ 9000) (h2 : -9000 ≤ z ∧ z ≤ 9000) (h3 : -1000 ≤ n ∧ n ≤ 1000) (h4 : -1000 ≤ d ∧ d ≤ 1000) : (⟨a, z, n, d⟩ : Res).ok := by
  unfold Res.ok
  dsimp only
  omega

theorem finNw {W0 w wX : World} {g n B hi : Nat} {sv rv p q : Value} {zs : List Res} (H : OwnRes wX B hi rv zs) (HD : Src1 W0 g sv n wX) (HW : Within g (g + 1) w wX) (hZ : w.heap.size < B) (hg : g < w.heap.size) (h0 : W0.heap.size ≤ g) :
    (∃ hi', OwnRes ((wX.setCell ⟨w.heap.size, 0, none⟩ p).setCell ⟨w.heap.size, 1, none⟩ q) (g + 1) hi' rv zs) ∧ Src1 W0 g sv n ((wX.setCell ⟨w.heap.size, 0, none⟩ p).setCell ⟨w.heap.size, 1, none⟩ q) ∧ Within g (g + 1) w ((wX.setCell ⟨w.heap.size, 0, none⟩ p).setCell ⟨w.heap.size, 1, none⟩ q) :=
  ⟨⟨hi, ((H.past (Within.off _) (.inr (by omega))).past (Within.off _) (.inr (by omega))).wide (by omega) (Nat.le_refl _)⟩, (HD.apart (by omega) (by omega)).apart (by omega) (by omega), (HW.new _ _ _ (by omega)).new _ _ _ (by omega)⟩

theorem finNwD {W0 w wX : World} {g n B hi : Nat} {sv rv p q : Value} {zs : List Res} (H : OwnRes wX B hi rv zs) (HD : Src1 W0 g sv n wX) (HW : Within g (g + 1) w wX) (hZ : w.heap.size < B) (hg : g < w.heap.size) (h0 : W0.heap.size ≤ g) :
    (∃ hi', OwnRes ((wX.setCell ⟨w.heap.size, 0, none⟩ p).setCell ⟨w.heap.size, 1, none⟩ q).drew (g + 1) hi' rv zs) ∧ Src1 W0 g sv n ((wX.setCell ⟨w.heap.size, 0, none⟩ p).setCell ⟨w.heap.size, 1, none⟩ q).drew ∧ Within g (g + 1) w ((wX.setCell ⟨w.heap.size, 0, none⟩ p).setCell ⟨w.heap.size, 1, none⟩ q).drew := by
  obtain ⟨⟨hi', h1⟩, h2, h3⟩ := finNw (p := p) (q := q) H HD HW hZ hg h0
  exact ⟨⟨hi', h1.by (below_of_drewN _ 1)⟩, h2.by (below_of_drewN _ 1), h3.drewN 1⟩
theorem cs_set {cs : Array Value} {zs : List Res} (hcs : ∀ i x, zs[i]? = some x → ResCs cs i x) (k f : Nat) (hf : f < 4) (v : Value) (x' : Res) (hx' : ResCs (cs.setIfInBounds (k * 4 + f) v) k x') :
    ∀ i x, (zs.set k x')[i]? = some x → ResCs (cs.setIfInBounds (k * 4 + f) v) i x := by
  intro i x hi
  by_cases h : i = k
  · subst h
    rw [List.getElem?_set] at hi
    simp at hi
    obtain ⟨_, rfl⟩ := hi
    exact hx'
  · rw [List.getElem?_set_ne (by omega)] at hi
    obtain ⟨h0, h1, h2, h3⟩ := hcs i x hi
    refine ⟨?_, ?_, ?_, ?_⟩ <;> rw [Array.getElem?_setIfInBounds_ne (by omega)] <;> assumption
theorem at_set0 {cs : Array Value} {k : Nat} {x : Res} (h : ResCs cs k x) (u : Int) : ResCs (cs.setIfInBounds (k * 4 + 0) (.int .i64 u)) k ⟨u, x.b, x.num, x.den⟩ := by
  obtain ⟨h0, h1, h2, h3⟩ := h
  have hb := (Array.getElem?_eq_some_iff.1 h0).1
  refine ⟨?_, ?_, ?_, ?_⟩ <;> simp [Array.getElem?_setIfInBounds, *]
theorem at_set1 {cs : Array Value} {k : Nat} {x : Res} (h : ResCs cs k x) (u : Int) : ResCs (cs.setIfInBounds (k * 4 + 1) (.int .i64 u)) k ⟨x.a, u, x.num, x.den⟩ := by
  obtain ⟨h0, h1, h2, h3⟩ := h
  have hb := (Array.getElem?_eq_some_iff.1 h1).1
  refine ⟨?_, ?_, ?_, ?_⟩ <;> simp [Array.getElem?_setIfInBounds, *]
theorem at_set2 {cs : Array Value} {k : Nat} {x : Res} (h : ResCs cs k x) (u : Int) : ResCs (cs.setIfInBounds (k * 4 + 2) (.int .i64 u)) k ⟨x.a, x.b, u, x.den⟩ := by
  obtain ⟨h0, h1, h2, h3⟩ := h
  have hb := (Array.getElem?_eq_some_iff.1 h2).1
  refine ⟨?_, ?_, ?_, ?_⟩ <;> simp [Array.getElem?_setIfInBounds, *]
theorem at_set3 {cs : Array Value} {k : Nat} {x : Res} (h : ResCs cs k x) (u : Int) : ResCs (cs.setIfInBounds (k * 4 + 3) (.int .i64 u)) k ⟨x.a, x.b, x.num, u⟩ := by
  obtain ⟨h0, h1, h2, h3⟩ := h
  have hb := (Array.getElem?_eq_some_iff.1 h3).1
  refine ⟨?_, ?_, ?_, ?_⟩ <;> simp [Array.getElem?_setIfInBounds, *]
theorem ok_set {zs : List Res} (h : ∀ r ∈ zs, r.ok) (k : Nat) (x : Res) (hx : x.ok) : ∀ r ∈ zs.set k x, r.ok := by
  intro r hr
  rcases List.mem_or_eq_of_mem_set hr with h' | h'
  · exact h r h'
  · rw [h']; exact hx
theorem get_set {zs : List Res} {k : Nat} (x : Res) (hk : k < zs.length) : (zs.set k x)[k]? = some x := by simp [hk]

theorem finNwA {W0 w wX : World} {g n T : Nat} {sv p q t : Value} {cs : Array Value} (HD : Src1 W0 g sv n wX) (HW : Within g (g + 1) w wX) (hT : w.heap.size < T) (hg : g < w.heap.size) (h0 : W0.heap.size ≤ g) :
    Blk ((((wX.setCell ⟨T, 1, none⟩ t).setCell ⟨w.heap.size, 0, none⟩ p).setCell ⟨w.heap.size, 1, none⟩ q).alloc (.cells cs 39)) wX.heap.size cs 39 ∧ Src1 W0 g sv n ((((wX.setCell ⟨T, 1, none⟩ t).setCell ⟨w.heap.size, 0, none⟩ p).setCell ⟨w.heap.size, 1, none⟩ q).alloc (.cells cs 39)) ∧ Within g (g + 1) w ((((wX.setCell ⟨T, 1, none⟩ t).setCell ⟨w.heap.size, 0, none⟩ p).setCell ⟨w.heap.size, 1, none⟩ q).alloc (.cells cs 39)) := by
  have k : Blk ((((wX.setCell ⟨T, 1, none⟩ t).setCell ⟨w.heap.size, 0, none⟩ p).setCell ⟨w.heap.size, 1, none⟩ q).alloc (.cells cs 39)) (((wX.setCell ⟨T, 1, none⟩ t).setCell ⟨w.heap.size, 0, none⟩ p).setCell ⟨w.heap.size, 1, none⟩ q).heap.size cs 39 := Blk.new _ rfl
  have hs : (((wX.setCell ⟨T, 1, none⟩ t).setCell ⟨w.heap.size, 0, none⟩ p).setCell ⟨w.heap.size, 1, none⟩ q).heap.size = wX.heap.size := by simp
  rw [hs] at k
  exact ⟨k, Src1.by ((Below.refl _ _).alloc (Nat.le_refl _) _) (((HD.apart (by omega) (by omega)).apart (by omega) (by omega)).apart (by omega) (by omega)), (((HW.new _ _ _ (by omega)).new _ _ _ (by omega)).new _ _ _ (by omega)).alloc _⟩
theorem ok_three (d : Int) (h0 : 0 ≤ d) (h1 : d ≤ 3) : ∀ r ∈ [(⟨0, 1, 1000000, 1⟩ : Res), ⟨0, 1, 1000000, 7⟩, ⟨1, 0, 9999 + d, 1⟩], r.ok := by
  intro r hr
  simp only [List.mem_cons, List.not_mem_nil, or_false] at hr
  rcases hr with rfl | rfl | rfl <;> (unfold Res.ok; dsimp only; omega)
theorem cs_three (d : Int) : ∀ i x, [(⟨0, 1, 1000000, 1⟩ : Res), ⟨0, 1, 1000000, 7⟩, ⟨1, 0, 9999 + d, 1⟩][i]? = some x → ResCs #[.int .i64 0, .int .i64 1, .int .i64 1000000, .int .i64 1, .int .i64 0, .int .i64 1, .int .i64 1000000, .int .i64 7, .int .i64 1, .int .i64 0, .int .i64 (9999 + d), .int .i64 1] i x := by
  intro i x hi
  match i, hi with
  | 0, hi => simp at hi; subst hi; exact ⟨rfl, rfl, rfl, rfl⟩
  | 1, hi => simp at hi; subst hi; exact ⟨rfl, rfl, rfl, rfl⟩
  | 2, hi => simp at hi; subst hi; exact ⟨rfl, rfl, rfl, rfl⟩
  | (_ + 3), hi => simp at hi

theorem cellsRes_app (ps qs : List Res) : cellsRes (ps ++ qs) = cellsRes ps ++ cellsRes qs := by
  induction ps with
  | nil => rfl
  | cons p ps ih => simp [cellsRes, ih]
theorem cellsRes_one (ps : List Res) : ∀ u ∈ cellsRes ps, u.oneCell' = true := by
  induction ps with
  | nil => intro u hu; simp [cellsRes] at hu
  | cons p ps ih =>
    intro u hu
    simp [cellsRes] at hu
    rcases hu with rfl | rfl | rfl | rfl | h
    · rfl
    · rfl
    · rfl
    · rfl
    · exact ih u h
/-- append(out, out...). -/
theorem list_selfRes {ops : Array Oper} {rest : List Oper} {o : Oper} {a : Act} {w : World} {Q : Exit → Act → World → Prop} (hgd : o.guard = none) (s x : Operand)
    (ho : o.op = .call { callee := .builtin .append, args := #[s, x], argTypes := #[24, 24] })
    (lo hi G cap : Nat) (ps : List Res) (hs : a.eval s = .slice (some ⟨G, 0, none⟩) ps.length cap) (hx : a.eval x = .slice (some ⟨G, 0, none⟩) ps.length cap) (hB : BldRes w lo hi (.slice (some ⟨G, 0, none⟩) ps.length cap) ps) (hlo : lo ≤ hi) (h0 : 0 < ps.length) (hn : ps.length ≤ 500)
    (hK : ∀ a' c' w', BldRes w' lo w'.heap.size (.slice a' (ps.length + ps.length) c') (ps ++ ps) → Within lo hi w w' → wpList Try.prog ops Q rest (a.put o.dst (.slice a' (ps.length + ps.length) c')) w') : wpList Try.prog ops Q (o :: rest) a w :=
  wpList_plain hgd fun K hk => by
    obtain ⟨i0, hi0, hz0, hz1, hz2⟩ := info_parts infoRes2
    obtain ⟨hsz, h1, h3⟩ := hB
    have hnews : ∀ j u, (cellsRes ps)[j]? = some u → w.cell? ((⟨G, 0, none⟩ : Addr).add j) = some u := by
      obtain ⟨_, r⟩ := h1
      rcases r with ⟨_, r1⟩ | ⟨g, cap', cur, e1, e2, e3, e4, e5, e6, e7⟩
      · omega
      · have hg : G = g := by injection e1 with e1; injection e1 with e1; injection e1
        subst hg
        intro j u hu
        refine World.news_of_block e3 j u ?_
        rw [← e7] at hu
        rw [List.getElem?_take] at hu
        split at hu
        · exact hu
        · cases hu
    have h := step_append_lies (ops := ops) (K := K) (Q := Q) (E := False) w hgd s x 24 ho lo 39 i0 _ 4 32 Try.underlying24 hi0 hz0 hz1 hz2 rfl (by decide) _ ps.length _ hs h1 ⟨G, 0, none⟩ ps.length cap (cellsRes ps) hx (length_cellsRes ps) hnews (cellsRes_one ps) h0 (by unfold maxLen; omega) (by omega) (by omega) w.heap.size rfl
      (fun g cap w' hrow hgrow hg hgl => by
        have hW : Within lo hi w w' := grown_within hgrow h3
        refine hk _ _ (hK (some ⟨g, 0, none⟩) cap w' ⟨Nat.le_refl _, ?_, ?_⟩ hW)
        · rw [List.length_append, cellsRes_app]; exact hrow
        · intro g' hg'
          have : g = g' := by injection hg'
          subst this
          rcases hg with h | h
          · have := h3 g h; omega
          · omega)
    rwa [if_pos (by simp [Region.wanted, hgd])] at h

theorem three_at (dn : Nat) (h : dn < 3) : ∃ V : Int, (#[.int .i64 0, .int .i64 1000000, .int .i64 1000001] : Array Value)[dn]? = some (.int .i64 V) ∧ 0 ≤ V ∧ V ≤ 1000001 := by
  rcases (show dn = 0 ∨ dn = 1 ∨ dn = 2 by omega) with rfl | rfl | rfl
  · exact ⟨0, rfl, by omega, by omega⟩
  · exact ⟨1000000, rfl, by omega, by omega⟩
  · exact ⟨1000001, rfl, by omega, by omega⟩

/-- Two may come up. -/
theorem wpAnyE_two {P : Program} {ops : Array Oper} {Q : Exit → Act → World → Prop} {md : Region.Mode} {S : World → Prop} {l k k' : Nat} {o o' : Oper} {fuel : Nat} {listed : Array Bool} {a : Act} {w : World} (hr : Region.ready md ops listed = [k, k']) (ho : ops[k]? = some o) (ho' : ops[k']? = some o')
    (h : ∀ K' : Act → World → Prop, Shut (∀ a w, (k ≠ l → S w) → wpAnyE P md ops Q S l fuel (listed.setIfInBounds k true) a w → K' a w) → if Region.wanted o (yielded ops a.tmps) = true then Oper.wp P o a w K' Q else K' (a.put o.dst undef) w)
    (h' : ∀ K' : Act → World → Prop, Shut (∀ a w, (k' ≠ l → S w) → wpAnyE P md ops Q S l fuel (listed.setIfInBounds k' true) a w → K' a w) → if Region.wanted o' (yielded ops a.tmps) = true then Oper.wp P o' a w K' Q else K' (a.put o'.dst undef) w) :
    wpAnyE P md ops Q S l (fuel + 1) listed a w := by
  refine ⟨fun h0 => (by rw [h0] at hr; cases hr), fun i hi => ?_⟩
  rw [hr] at hi
  have hik : i = k ∨ i = k' := by simpa using hi
  rcases hik with rfl | rfl
  · exact wpOp_step ho (fun K' hK => h K' (fun a w hS hW => hK a w ⟨hS, hW⟩))
  · exact wpOp_step ho' (fun K' hK => h' K' (fun a w hS hW => hK a w ⟨hS, hW⟩))

set_option maxRecDepth 100000 in
set_option maxHeartbeats 8000000 in
theorem l26DrawNetwork_any (W0 : World) (g : Nat) (sv : Value) (n : Nat) (w : World) (hD : Src1 W0 g sv n w) :
    Calls Try.prog 21 #[.pointer (some ⟨g, 0, none⟩)] w fun e w' => ∃ (x : Nw) (rv : Value), e = .returned (.agg #[.int .i64 x.nodes, rv]) ∧ (0 ≤ x.nodes ∧ x.nodes ≤ 7) ∧ (0 < x.rs.length ∧ x.rs.length ≤ 16) ∧ (∀ r ∈ x.rs, r.ok) ∧ (∃ hi', OwnRes w' (g + 1) hi' rv x.rs) ∧ Src1 W0 g sv n w' ∧ Within g (g + 1) w w' := by
  have HN := Lib.hid (fun q w h hq => l01Next_any W0 g sv n q w h hq)
  have hgl := hD.lt
  have HD := Lib.hid hD
  have HRD := Lib.hid (fun n d w h1 h2 h3 h4 h5 => l26Reduce_any n d w h1 h2 h3 h4 h5)
  clear hD
  go_enter Try.func21, Try.ntmps21
  go_wp2_with fail
  refine (HN.out _ _ (HD.out.by (by ((repeat (first | (with_reducible exact Below.refl _ _) | (with_reducible refine below_drewN ?_ _) | (with_reducible refine Below.drew ?_) | (with_reducible refine below_al ?_ _) | (with_reducible refine below_on (by assumption) ?_) | ((with_reducible refine Below.setCell ?_ ?_ _); rotate_left; focus (first | omega | (simp; done) | (simp; omega))) | (with_reducible assumption))); done))) (by omega)).mono ?_
  rintro e w1 ⟨y, rfl, hy0, hy1, hD1, ho1⟩
  have kZ0 : Blk (w.alloc (.cells #[.int .i64 0, .slice none 0 0] 26)) w.heap.size #[.int .i64 0, .slice none 0 0] 26 := Blk.new _ rfl
  have kZ := ho1.within2.blk kZ0 (by omega)
  clear kZ0
  have hW1 : Within g (g + 1) w w1 := ((Within.refl g (g + 1) w).alloc _).on ho1.within2
  have wy := wrap_i64 (2 + y) (by omega) (by omega)
  obtain ⟨N, hN⟩ : ∃ N, 2 + y = N := ⟨_, rfl⟩
  rw [hN] at wy
  have hNb : 2 ≤ N ∧ N ≤ 5 := by omega
  have kTL : Blk (w1.alloc (.cells #[.int .i64 N, .slice none 0 0] 26)) w1.heap.size #[.int .i64 N, .slice none 0 0] 26 := Blk.new _ rfl
  have kZL := (kZ.past (.cells #[.int .i64 N, .slice none 0 0] 26))
  have HDL := Lib.hid (hD1.by ((Below.refl _ w1).alloc (Nat.le_refl _) (.cells #[.int .i64 N, .slice none 0 0] 26)))
  have hWL := hW1.alloc (.cells #[.int .i64 N, .slice none 0 0] 26)
  have hs1 := hW1.size
  have lZ := kZ.lt
  go_wp2_with fail
  refine (HN.out _ _ HDL.out (by omega)).mono ?_
  rintro e w2 ⟨k, rfl, hk0, hk1, hD2, ho2⟩
  have kT2 := ho2.within2.blk kTL (by omega)
  have kZ2 := ho2.within2.blk kZL (by omega)
  have hW2 := hWL.on ho2.within2
  have lT2 := kT2.lt
  obtain ⟨T, hT⟩ : ∃ T, w1.heap.size = T := ⟨_, rfl⟩
  simp only [hT] at kT2 lT2
  have hsT : w.heap.size < T := by omega
  obtain ⟨m, rfl⟩ : ∃ m : Nat, k = (m : Int) := ⟨k.toNat, by omega⟩
  have hm : m ≤ 7 := by omega
  obtain ⟨B, hB⟩ : ∃ B, w2.heap.size = B := ⟨_, rfl⟩
  have hTB : T < B := by omega
  have hB0 := BldRes.nil w2 B
  rw [hB] at hB0
  have HB0 := Lib.hid hB0
  have HD2 := Lib.hid hD2
  have HW2 := Lib.hid hW2
  have HZ2 := Lib.hid kZ2
  have HNb := Lib.hid hNb
  clear hB0 hD2 hW2 kZ2 hWL kTL kZL kZ HDL hD1 ho1 ho2 hW1 hy0 hy1 hN
  go_wp2
  go_loopw [4] (fun z wr => ∃ (q hi : Nat) (v : Value) (zs : List Res), z = .int .i64 ((q : Int) - 1) ∧ zs.length + q = m + 1 ∧ B ≤ hi ∧ Blk wr T #[.int .i64 N, v] 26 ∧ Hid (Blk wr w.heap.size #[.int .i64 0, .slice none 0 0] 26) ∧ Hid (BldRes wr B hi v zs) ∧ Hid (∀ r ∈ zs, r.ok) ∧ Hid (Src1 W0 g sv n wr) ∧ Hid (Within g (g + 1) w wr)) (fun z _ => (intOf z + 1).toNat)
  case atStart => exact ⟨m + 1, B, .slice none 0 0, [], by go_num, by simp, Nat.le_refl _, kT2, HZ2, HB0, Lib.hid (by simp), HD2, HW2⟩
  case round =>
    clear HZ2 HB0 HD2 HW2 kT2
    obtain ⟨q, hi, v, zs, rfl, hzq, hBhi, kT, HZ, HB, HO, HDr, HWr⟩ := hrel
    obtain ⟨av, cv, rfl⟩ := HB.out.sized
    have hhi := HB.out.1
    have lT := kT.lt
    by_cases hq : 0 < q
    · obtain ⟨r, rfl⟩ : ∃ r, q = r + 1 := ⟨q - 1, by omega⟩
      have cT0 : wr.cell? ⟨T, 0, none⟩ = some (.int .i64 N) := kT.cell 0
      have i1 : ((r + 1 : Nat) : Int) - 1 = (r : Int) := by omega
      have i2 : (0 : Int) ≤ (r : Int) := by omega
      have wq : IntKind.i64.wrap ((r : Int) - 1) = (r : Int) - 1 := wrap_i64 _ (by omega) (by omega)
      simp only [i1]
      have hzl : zs.length ≤ 8 := by omega
      have hnb := HNb.out
      go_wp2_with fail
      refine (HN.out _ _ (HDr.out.by (by ((repeat (first | (with_reducible exact Below.refl _ _) | (with_reducible refine below_drewN ?_ _) | (with_reducible refine Below.drew ?_) | (with_reducible refine below_al ?_ _) | (with_reducible refine below_on (by assumption) ?_) | ((with_reducible refine Below.setCell ?_ ?_ _); rotate_left; focus (first | omega | (simp; done) | (simp; omega))) | (with_reducible assumption))); done))) (by omega)).mono ?_
      rintro e w3 ⟨a, rfl, ha0, ha1, hD3, ho3⟩
      have kT3 := ho3.within2.blk kT (by omega)
      have kZ3 := ho3.within2.blk HZ.out (by omega)
      have hW3 := HWr.out.on ho3.within2
      have hB3 := BldRes.only ho3 HB.out (by omega)
      go_wp2_with fail
      refine (HN.out _ _ hD3 (by omega)).mono ?_
      rintro e w4 ⟨b, rfl, hb0, hb1, hD4, ho4⟩
      replace kT3 := ho4.within2.blk kT3 (by omega)
      replace kZ3 := ho4.within2.blk kZ3 (by omega)
      replace hW3 := hW3.on ho4.within2
      replace hB3 := BldRes.only ho4 hB3 (by omega)
      go_wp2_with fail
      refine (HN.out _ _ hD4 (by omega)).mono ?_
      rintro e w5 ⟨c, rfl, hc0, hc1, hD5, ho5⟩
      replace kT3 := ho5.within2.blk kT3 (by omega)
      replace kZ3 := ho5.within2.blk kZ3 (by omega)
      replace hW3 := hW3.on ho5.within2
      replace hB3 := BldRes.only ho5 hB3 (by omega)
      have wb : IntKind.i64.wrap (1 + b) = 1 + b := wrap_i64 _ (by omega) (by omega)
      have wc : IntKind.i64.wrap (1 + c) = 1 + c := wrap_i64 _ (by omega) (by omega)
      go_wp2_with fail
      refine (HRD.out (1 + b) (1 + c) _ (by omega) (by omega) (by omega) (by omega) (by omega)).mono ?_
      rintro e w6 ⟨rfl, hb6⟩
      have hrn := red_bd (1 + b) (show (0 : Int) < 1 + c by omega)
      have hrp := redD_pos (1 + b) (show (0 : Int) < 1 + c by omega)
      generalize redN (1 + b) (1 + c) = RN at *
      generalize redD (1 + b) (1 + c) = RD at *
      have hRN : -1000 ≤ RN ∧ RN ≤ 1000 := by omega
      have hRD : -1000 ≤ RD ∧ RD ≤ 1000 := by omega
      have kT6 := Blk.by hb6 kT3
      have kZ6 := Blk.by hb6 kZ3
      have hB6 := BldRes.by hb6 hB3
      have hD6 := Src1.by hb6 hD5
      have hs3 := hW3.size
      have hW6 := hW3.below2 hb6 (by omega)
      have hbB := hB6.1
      obtain ⟨T5, hT5⟩ : ∃ T5, w6.heap.size = T5 := ⟨_, rfl⟩
      have k5A : Blk (w6.alloc (.cells #[.int .i64 a, .int .i64 0, .int .i64 RN, .int .i64 RD] 39)) w6.heap.size #[.int .i64 a, .int .i64 0, .int .i64 RN, .int .i64 RD] 39 := Blk.new _ rfl
      rw [hT5] at k5A hbB
      have kTA := kT6.past (.cells #[.int .i64 a, .int .i64 0, .int .i64 RN, .int .i64 RD] 39)
      have kZA := kZ6.past (.cells #[.int .i64 a, .int .i64 0, .int .i64 RN, .int .i64 RD] 39)
      have hBA := BldRes.by ((Below.refl _ w6).alloc (Nat.le_refl _) (.cells #[.int .i64 a, .int .i64 0, .int .i64 RN, .int .i64 RD] 39)) hB6
      have hDA := Src1.by ((Below.refl _ w6).alloc (Nat.le_refl _) (.cells #[.int .i64 a, .int .i64 0, .int .i64 RN, .int .i64 RD] 39)) hD6
      have hWA := hW6.alloc (.cells #[.int .i64 a, .int .i64 0, .int .i64 RN, .int .i64 RD] 39)
      have hsA : (w6.alloc (.cells #[.int .i64 a, .int .i64 0, .int .i64 RN, .int .i64 RD] 39)).heap.size = T5 + 1 := by simp [hT5]
      clear hb6 kT3 kZ3 hB3 hD5 hD4 hD3 hW3 kT6 kZ6 hB6 hD6 hW6 ho3 ho4 ho5 kT HB HDr HWr HZ
      go_wp2_with fail
      generalize w6.alloc (.cells #[.int .i64 a, .int .i64 0, .int .i64 RN, .int .i64 RD] 39) = wa at *
      have HDA := Lib.hid hDA
      have HBA := Lib.hid hBA
      have HWA := Lib.hid hWA
      have HZA := Lib.hid kZA
      have cA0 := kTA.cell 0
      have c50 : wa.cell? ⟨T5, 0, none⟩ = some (.int .i64 a) := k5A.cell 0
      have cTA0 : wa.cell? ⟨T, 0, none⟩ = some (.int .i64 N) := kTA.cell 0
      have l5A := k5A.lt
      have lTA := kTA.lt
      have wN : IntKind.i64.wrap (N - 1) = N - 1 := wrap_i64 _ (by omega) (by omega)
      have wA : IntKind.i64.wrap (a + 1) = a + 1 := wrap_i64 _ (by omega) (by omega)
      have hN0 : ¬ N = 0 := by omega
      have hT5T : T < T5 := by omega
      clear hDA hBA hWA kZA cA0
      go_region_law
        (first | (go_simp; go_at_call 22; refine (HN.out _ _ (HDA.out.by (below_of_drewN wa 1)) (by omega)).mono ?_; rintro e w7 ⟨d, rfl, hd0, hd1, hD7, ho7⟩; have HD7 := Lib.hid hD7; have k57 := ho7.within2.blk k5A.drew (by omega); have kT7 := ho7.within2.blk kTA.drew (by omega); have c57 : w7.cell? ⟨T5, 0, none⟩ = some (.int .i64 a) := k57.cell 0; have cT7 : w7.cell? ⟨T, 0, none⟩ = some (.int .i64 N) := kT7.cell 0; have c571 : w7.cell? ⟨T5, 1, none⟩ = some (.int .i64 0) := k57.cell 1; have f57 : w7.frozen? ⟨T5, 1, none⟩ = false := k57.free 1; have l57 := k57.lt; have lT7 := kT7.lt; have wD : IntKind.i64.wrap (a + 1 + d) = a + 1 + d := wrap_i64 _ (by omega) (by omega); obtain ⟨z, hz⟩ : ∃ z, (a + 1 + d).tmod N = z := ⟨_, rfl⟩; have hzb : -10 ≤ z ∧ z ≤ 10 := (by have h1 := Int.tmod_lt_of_pos (a + 1 + d) (show 0 < N by omega); have h2 := Int.tmod_nonneg N (show 0 ≤ a + 1 + d by omega); omega); have wZ : IntKind.i64.wrap z = z := wrap_i64 _ (by omega) (by omega); clear hD7; dsimp only))
      all_goals
        (try clear hq)
        have HB7 := Lib.hid (BldRes.only ho7 (HBA.out.by (below_of_drewN wa 1)) (by omega))
        have hs7 := ho7.within2.size
        have hs7' : wa.heap.size ≤ w7.heap.size := hs7
        have HW7 := Lib.hid ((HWA.out.drewN 1).on ho7.within2)
        have HZ7 := Lib.hid (ho7.within2.blk HZA.out.drew (by omega))
        have kT8 := kT7.apart T5 1 (.int .i64 z) (by omega)
        have k58 : Blk (w7.setCell ⟨T5, 1, none⟩ (.int .i64 z)) T5 #[.int .i64 a, .int .i64 z, .int .i64 RN, .int .i64 RD] 39 := by simpa using k57.set 1 (.int .i64 z)
        have HB8 := Lib.hid (BldRes.past (Within.off (g := T5) (o := 1) (w := w7) (.int .i64 z)) HB7.out (by omega))
        have HD8 := Lib.hid (HD7.out.apart (b := T5) (o := 1) (v := .int .i64 z) (by omega) (by have := HD.out.1; omega))
        have HZ8 := Lib.hid (HZ7.out.apart T5 1 (.int .i64 z) (by omega))
        have HW8 := Lib.hid (HW7.out.new T5 1 (.int .i64 z) (by omega))
        have hs8 : w7.heap.size ≤ (w7.setCell ⟨T5, 1, none⟩ (.int .i64 z)).heap.size := by simp
        generalize w7.setCell ⟨T5, 1, none⟩ (.int .i64 z) = w8 at *
        have cT8 := kT8.cell 1
        have cT81 : w8.cell? ⟨T, 1, none⟩ = some (.slice av zs.length cv) := kT8.cell 1
        have fT81 : w8.frozen? ⟨T, 1, none⟩ = false := kT8.free 1
        have lT8 := kT8.lt
        have c580 : w8.cell? ⟨T5, 0, none⟩ = some (.int .i64 a) := k58.cell 0
        have c581 : w8.cell? ⟨T5, 1, none⟩ = some (.int .i64 z) := k58.cell 1
        have c582 : w8.cell? ⟨T5, 2, none⟩ = some (.int .i64 RN) := k58.cell 2
        have c583 : w8.cell? ⟨T5, 3, none⟩ = some (.int .i64 RD) := k58.cell 3
        have l58 := k58.lt
        clear cT8 HB7 HD7 HZ7 HW7 k57 kT7 HBA HWA HZA HDA
        have HR9 := Lib.hid (res_ok a z RN RD (by omega) (by omega) hRN hRD)
        have hs08 : w.heap.size ≤ w8.heap.size := by omega
        have hi8 : hi ≤ w8.heap.size := by omega
        clear hz wD wA wN wZ hd0 hd1 ha0 ha1 hb0 hb1 hc0 hc1 hrn hrp hRN hRD hnb hN0 hk0 hk1 kTA k5A cTA0 c50 ho7 hzb hs3 hbB hsA
        clear wb wc wy hs1 hs7 hs7'
        go_wp2_with (refine list_pushRes (by rfl) _ _ (by rfl) B hi (.slice av zs.length cv) zs (by rfl) (HB8.out.by (by ((repeat (first | (with_reducible exact Below.refl _ _) | (with_reducible refine below_drewN ?_ _) | (with_reducible refine Below.drew ?_) | (with_reducible refine below_al ?_ _) | (with_reducible refine below_on (by assumption) ?_) | ((with_reducible refine Below.setCell ?_ ?_ _); rotate_left; focus (first | omega | (simp; done) | (simp; omega))) | (with_reducible assumption))); done))) w8.heap.size ⟨a, z, RN, RD⟩ (by rfl) (Blk.new _ rfl) hBhi (by omega) ?_; intro a9 c9 w9 hB9 hw9; have HB9 := Lib.hid hB9; clear hB9; have kT9 := hw9.blk (kT8.past (.cells #[.int .i64 a, .int .i64 z, .int .i64 RN, .int .i64 RD] 39)) (by omega); have cT9 : w9.cell? ⟨T, 1, none⟩ = some (.slice av zs.length cv) := kT9.cell 1; have fT9 : w9.frozen? ⟨T, 1, none⟩ = false := kT9.free 1; have lT9 := kT9.lt)
        have hs9 := hw9.size
        simp only [World.size_alloc] at hs9
        have HO9 := Lib.hid (show ∀ r ∈ zs ++ [⟨a, z, RN, RD⟩], r.ok from by
          intro r hr
          rcases List.mem_append.1 hr with h | h
          · exact HO.out r h
          · rw [List.mem_singleton] at h; subst h; exact HR9.out)
        have HD9 := Lib.hid (Src1.within9 hw9 (HD8.out.by ((Below.refl _ w8).alloc (Nat.le_refl _) (.cells #[.int .i64 a, .int .i64 z, .int .i64 RN, .int .i64 RD] 39))) (by omega) (by have := HD.out.1; omega))
        have HW9 := Lib.hid ((HW8.out.alloc (.cells #[.int .i64 a, .int .i64 z, .int .i64 RN, .int .i64 RD] 39)).newer9 hw9 (by omega))
        have HZ9 := Lib.hid (hw9.blk (HZ8.out.past (.cells #[.int .i64 a, .int .i64 z, .int .i64 RN, .int .i64 RD] 39)) (by omega))
        exact ⟨⟨r, w9.heap.size, .slice a9 (zs.length + 1) c9, zs ++ [⟨a, z, RN, RD⟩], rfl, by simp; omega, by omega, by simpa using kT9.set 1 (.slice a9 (zs.length + 1) c9), Lib.hid (HZ9.out.apart _ _ _ (by omega)), Lib.hid (by simpa using BldRes.past (Within.off _) HB9.out (by omega)), HO9, Lib.hid (HD9.out.apart (by omega) (by have := HD.out.1; omega)), Lib.hid (HW9.out.new _ _ _ (by omega))⟩, by simp [intOf]⟩
    · obtain rfl : q = 0 := by omega
      have i1 : ¬ (0 : Int) ≤ -1 := by omega
      have i2 : (((0 : Nat) : Int) - 1) = -1 := by omega
      simp only [i2]
      have hzl : zs.length ≤ 8 ∧ 0 < zs.length := by omega
      go_wp2_with fail
      refine (HN.out _ _ (HDr.out.by (by ((repeat (first | (with_reducible exact Below.refl _ _) | (with_reducible refine below_drewN ?_ _) | (with_reducible refine Below.drew ?_) | (with_reducible refine below_al ?_ _) | (with_reducible refine below_on (by assumption) ?_) | ((with_reducible refine Below.setCell ?_ ?_ _); rotate_left; focus (first | omega | (simp; done) | (simp; omega))) | (with_reducible assumption))); done))) (by omega)).mono ?_
      rintro e w3 ⟨a, rfl, ha0, ha1, hD3, ho3⟩
      have kT3 := ho3.within2.blk kT (by omega)
      have kZ3 := ho3.within2.blk HZ.out (by omega)
      have hW3 := HWr.out.on ho3.within2
      have hB3 := BldRes.only ho3 HB.out (by omega)
      have hnb := HNb.out
      have c30 : w3.cell? ⟨T, 0, none⟩ = some (.int .i64 N) := kT3.cell 0
      have c31 : w3.cell? ⟨T, 1, none⟩ = some (.slice av zs.length cv) := kT3.cell 1
      have cZ := kZ3.cell
      have fZ := kZ3.free
      have lZ3 := kZ3.lt
      have lT3 := kT3.lt
      have hsz3 := hW3.size
      by_cases ha : a = 0
      · subst ha
        have HB3 := Lib.hid hB3
        have HW3 := Lib.hid hW3
        have HZ3 := Lib.hid kZ3
        clear hB3 hW3 kZ3 cZ fZ
        go_wp2_with fail
        refine (HN.out _ _ hD3 (by omega)).mono ?_
        rintro e w4 ⟨kk, rfl, hkk0, hkk1, hD4, ho4⟩
        obtain ⟨k, rfl⟩ : ∃ k : Nat, kk = (k : Int) := ⟨kk.toNat, by omega⟩
        have hk : k < zs.length := by omega
        have kT4 := ho4.within2.blk kT3 (by omega)
        have HZ4 := Lib.hid (ho4.within2.blk HZ3.out (by omega))
        have HW4 := Lib.hid (HW3.out.on ho4.within2)
        have HB4 := Lib.hid (BldRes.only ho4 HB3.out (by omega))
        go_wp2_with fail
        refine (HN.out _ _ hD4 (by omega)).mono ?_
        rintro e w5 ⟨s, rfl, hs0, hs1', hD5, ho5⟩
        have kT5 := ho5.within2.blk kT4 (by omega)
        have kZ5 := ho5.within2.blk HZ4.out (by omega)
        have HW5 := Lib.hid (HW4.out.on ho5.within2)
        have HB5 := Lib.hid (BldRes.only ho5 HB4.out (by omega))
        have HD5 := Lib.hid hD5
        have hsz5 := HW5.out.size
        have hhi5 := HB5.out.1
        clear hD5 HB4 HW4 HZ4 kT4 ho5 ho4 hD4 HB3 HW3 HZ3 kT3 ho3 hD3 HB HWr HDr kT c30 c31 lZ3 lT3
        have cT50 : w5.cell? ⟨T, 0, none⟩ = some (.int .i64 N) := kT5.cell 0
        have cT51 : w5.cell? ⟨T, 1, none⟩ = some (.slice av zs.length cv) := kT5.cell 1
        have lT5 := kT5.lt
        have cZ := kZ5.cell
        have fZ := kZ5.free
        have lZ5 := kZ5.lt
        rcases HB5.out.own with ⟨_, _, _, hnil⟩ | ⟨G, cap, cs, hav, hG, hc1, hc2, kG, hcs⟩
        · subst hnil; simp at hk
        · obtain ⟨rfl, -, rfl⟩ : av = some ⟨G, 0, none⟩ ∧ True ∧ cv = cap := by injection hav with h1 h2 h3; exact ⟨h1, trivial, h3⟩
          clear hav
          obtain ⟨xk, hxk⟩ : ∃ xk, zs[k]? = some xk := ⟨zs[k], List.getElem?_eq_getElem hk⟩
          obtain ⟨q0, q1, q2, q3⟩ := hcs k xk hxk
          have cG0 : w5.cell? ⟨G, k * 4, none⟩ = some (.int .i64 xk.a) := (kG.cell _).trans q0
          have cG1 : w5.cell? ⟨G, k * 4 + 1, none⟩ = some (.int .i64 xk.b) := (kG.cell _).trans q1
          have cG2 : w5.cell? ⟨G, k * 4 + 2, none⟩ = some (.int .i64 xk.num) := (kG.cell _).trans q2
          have cG3 : w5.cell? ⟨G, k * 4 + 3, none⟩ = some (.int .i64 xk.den) := (kG.cell _).trans q3
          have fG := kG.free
          have lG := kG.lt
          have hkd : decide (k < zs.length) = true := decide_eq_true hk
          have hki : (k : Int) < (zs.length : Int) := by omega
          have hxo := HO.out xk (List.mem_of_getElem? hxk)
          by_cases s0 : s = 0
          · subst s0
            go_wp2_with fail
            go_region
            all_goals
              go_wp2
              exact bodyPost_ret (v := .agg #[.int .i64 N, .slice (some ⟨G, 0, none⟩) zs.length cv]) (by simp [results, Try.results21, go_sem, *]) rfl ⟨⟨N, zs.set k ⟨xk.b, xk.b, xk.num, xk.den⟩⟩, _, rfl, ⟨by dsimp only; omega, by dsimp only; omega⟩, (by refine ⟨?_, ?_⟩ <;> simp only [List.length_set, List.length_append] <;> omega), ok_set HO.out k _ ⟨hxo.2.1, hxo.2.1, hxo.2.2.1, hxo.2.2.2⟩, finNwD (.inr ⟨G, cv, _, by rw [List.length_set], hG, by rw [List.length_set]; exact hc1, hc2, kG.set (k * 4 + 0) (.int .i64 xk.b), cs_set hcs k 0 (by omega) _ _ (at_set0 (hcs k xk hxk) _)⟩) (HD5.out.apart (by omega) (by have := HD.out.1; omega)) (HW5.out.new _ _ _ (by omega)) (by omega) hgl HD.out.1⟩
          · by_cases s1 : s = 1
            · subst s1
              go_wp2
              exact bodyPost_ret (v := .agg #[.int .i64 N, .slice (some ⟨G, 0, none⟩) zs.length cv]) (by simp [results, Try.results21, go_sem, *]) rfl ⟨⟨N, (zs.set k ⟨xk.a, xk.b, 2, xk.den⟩).set k ⟨xk.a, xk.b, 2, 4⟩⟩, _, rfl, ⟨by dsimp only; omega, by dsimp only; omega⟩, (by refine ⟨?_, ?_⟩ <;> simp only [List.length_set, List.length_append] <;> omega), ok_set (ok_set HO.out k ⟨xk.a, xk.b, 2, xk.den⟩ ⟨hxo.1, hxo.2.1, ⟨by dsimp only; omega, by dsimp only; omega⟩, hxo.2.2.2⟩) k ⟨xk.a, xk.b, 2, 4⟩ ⟨hxo.1, hxo.2.1, ⟨by dsimp only; omega, by dsimp only; omega⟩, ⟨by dsimp only; omega, by dsimp only; omega⟩⟩, finNw (.inr ⟨G, cv, _, by simp only [List.length_set], hG, by simp only [List.length_set]; exact hc1, hc2, (kG.set (k * 4 + 2) (.int .i64 2)).set (k * 4 + 3) (.int .i64 4), cs_set (cs_set hcs k 2 (by omega) _ _ (at_set2 (hcs k xk hxk) _)) k 3 (by omega) _ _ (at_set3 (at_set2 (hcs k xk hxk) _) _)⟩) ((HD5.out.apart (by omega) (by have := HD.out.1; omega)).apart (by omega) (by have := HD.out.1; omega)) ((HW5.out.new _ _ _ (by omega)).new _ _ _ (by omega)) (by omega) hgl HD.out.1⟩
            · by_cases s6 : s = 6
              · subst s6
                go_wp2
                exact bodyPost_ret (v := .agg #[.int .i64 N, .slice (some ⟨G, 0, none⟩) zs.length cv]) (by simp [results, Try.results21, go_sem, *]) rfl ⟨⟨N, zs.set k ⟨xk.a, N, xk.num, xk.den⟩⟩, _, rfl, ⟨by dsimp only; omega, by dsimp only; omega⟩, (by refine ⟨?_, ?_⟩ <;> simp only [List.length_set, List.length_append] <;> omega), ok_set HO.out k _ ⟨hxo.1, ⟨by dsimp only; omega, by dsimp only; omega⟩, hxo.2.2.1, hxo.2.2.2⟩, finNw (.inr ⟨G, cv, _, by rw [List.length_set], hG, by rw [List.length_set]; exact hc1, hc2, kG.set (k * 4 + 1) (.int .i64 N), cs_set hcs k 1 (by omega) _ _ (at_set1 (hcs k xk hxk) _)⟩) (HD5.out.apart (by omega) (by have := HD.out.1; omega)) (HW5.out.new _ _ _ (by omega)) (by omega) hgl HD.out.1⟩
              · by_cases s3 : s = 3
                · subst s3
                  have k6L : Blk (w5.alloc (.cells #[.int .i64 0, .int .i64 7, .int .i64 1] 2)) w5.heap.size #[.int .i64 0, .int .i64 7, .int .i64 1] 2 := Blk.new _ rfl
                  have HD6 := Lib.hid (Src1.by ((Below.refl _ w5).alloc (Nat.le_refl _) (.cells #[.int .i64 0, .int .i64 7, .int .i64 1] 2)) HD5.out)
                  have HW6 := Lib.hid (HW5.out.alloc (.cells #[.int .i64 0, .int .i64 7, .int .i64 1] 2))
                  have kT6 := kT5.past (.cells #[.int .i64 0, .int .i64 7, .int .i64 1] 2)
                  have kZ6 := kZ5.past (.cells #[.int .i64 0, .int .i64 7, .int .i64 1] 2)
                  have HB6 := Lib.hid (BldRes.by ((Below.refl _ w5).alloc (Nat.le_refl _) (.cells #[.int .i64 0, .int .i64 7, .int .i64 1] 2)) HB5.out)
                  go_wp2_with fail
                  refine (HN.out _ _ HD6.out (by omega)).mono ?_
                  rintro e w7 ⟨d, rfl, hd0, hd1, hD7, ho7⟩
                  have k67 := ho7.within2.blk k6L (by omega)
                  have kT7 := ho7.within2.blk kT6 (by omega)
                  have kZ7 := ho7.within2.blk kZ6 (by omega)
                  have HB7 := Lib.hid (BldRes.only ho7 HB6.out (by omega))
                  have HW7 := Lib.hid (HW6.out.on ho7.within2)
                  have HD7 := Lib.hid hD7
                  have c60 : w7.cell? ⟨w5.heap.size, 0, none⟩ = some (.int .i64 0) := k67.cell 0
                  have c61 : w7.cell? ⟨w5.heap.size, 1, none⟩ = some (.int .i64 7) := k67.cell 1
                  have c62 : w7.cell? ⟨w5.heap.size, 2, none⟩ = some (.int .i64 1) := k67.cell 2
                  have c70 := kT7.cell 0
                  have c71 : w7.cell? ⟨T, 1, none⟩ = some (.slice (some ⟨G, 0, none⟩) zs.length cv) := kT7.cell 1
                  have f70 : w7.frozen? ⟨T, 0, none⟩ = false := kT7.free 0
                  have l67 := k67.lt
                  have lT7 := kT7.lt
                  have cZ7 := kZ7.cell
                  have fZ7 := kZ7.free
                  have lZ7 := kZ7.lt
                  clear hD7 HD6 HW6 HB6 kT6 kZ6 k6L ho7 cZ fZ cT50 cT51
                  obtain ⟨V, hV⟩ : ∃ V : Int, (V = 0 ∨ V = 7 ∨ V = 1) ∧ (d = 0 ∧ V = 0 ∨ d = 1 ∧ V = 7 ∨ d = 2 ∧ V = 1) := by
                    rcases (show d = 0 ∨ d = 1 ∨ d = 2 by omega) with h | h | h
                    · exact ⟨0, by omega, by omega⟩
                    · exact ⟨7, by omega, by omega⟩
                    · exact ⟨1, by omega, by omega⟩
                  rcases hV.2 with ⟨rfl, rfl⟩ | ⟨rfl, rfl⟩ | ⟨rfl, rfl⟩
                  · clear hV
                    go_wp2
                    exact bodyPost_ret (v := .agg #[.int .i64 0, .slice (some ⟨G, 0, none⟩) zs.length cv]) (by simp [results, Try.results21, go_sem, *]) rfl ⟨⟨0, zs⟩, _, rfl, ⟨by dsimp only; omega, by dsimp only; omega⟩, by dsimp only; omega, HO.out, finNw (BldRes.past (Within.off (g := T) (o := 0) _) HB7.out (by omega)).own (HD7.out.apart (by omega) (by have := HD.out.1; omega)) (HW7.out.new _ _ _ (by omega)) (by omega) hgl HD.out.1⟩
                  · clear hV
                    go_wp2
                    exact bodyPost_ret (v := .agg #[.int .i64 7, .slice (some ⟨G, 0, none⟩) zs.length cv]) (by simp [results, Try.results21, go_sem, *]) rfl ⟨⟨7, zs⟩, _, rfl, ⟨by dsimp only; omega, by dsimp only; omega⟩, by dsimp only; omega, HO.out, finNw (BldRes.past (Within.off (g := T) (o := 0) _) HB7.out (by omega)).own (HD7.out.apart (by omega) (by have := HD.out.1; omega)) (HW7.out.new _ _ _ (by omega)) (by omega) hgl HD.out.1⟩
                  · clear hV
                    go_wp2
                    exact bodyPost_ret (v := .agg #[.int .i64 1, .slice (some ⟨G, 0, none⟩) zs.length cv]) (by simp [results, Try.results21, go_sem, *]) rfl ⟨⟨1, zs⟩, _, rfl, ⟨by dsimp only; omega, by dsimp only; omega⟩, by dsimp only; omega, HO.out, finNw (BldRes.past (Within.off (g := T) (o := 0) _) HB7.out (by omega)).own (HD7.out.apart (by omega) (by have := HD.out.1; omega)) (HW7.out.new _ _ _ (by omega)) (by omega) hgl HD.out.1⟩
                · by_cases s5 : s = 5
                  · subst s5
                    go_wp2_with fail
                    refine (HN.out _ _ HD5.out (by omega)).mono ?_
                    rintro e w7 ⟨d, rfl, hd0, hd1, hD7, ho7⟩
                    have kT7 := ho7.within2.blk kT5 (by omega)
                    have kZ7 := ho7.within2.blk kZ5 (by omega)
                    have HW7 := Lib.hid (HW5.out.on ho7.within2)
                    have HD7 := Lib.hid hD7
                    have c70 : w7.cell? ⟨T, 0, none⟩ = some (.int .i64 N) := kT7.cell 0
                    have c71 : w7.cell? ⟨T, 1, none⟩ = some (.slice (some ⟨G, 0, none⟩) zs.length cv) := kT7.cell 1
                    have f71 : w7.frozen? ⟨T, 1, none⟩ = false := kT7.free 1
                    have lT7 := kT7.lt
                    have cZ7 := kZ7.cell
                    have fZ7 := kZ7.free
                    have lZ7 := kZ7.lt
                    have wd : IntKind.i64.wrap (9999 + d) = 9999 + d := wrap_i64 _ (by omega) (by omega)
                    have hsz7 := HW7.out.size
                    have hho7 := ho7.within2.size
                    clear hD7 ho7 cZ fZ cT50 cT51
                    go_wp2
                    obtain ⟨e1, e2, e3⟩ := finNwA (p := .int .i64 N) (q := .slice (some ⟨w7.heap.size, 0, none⟩) 3 3) (t := .slice (some ⟨w7.heap.size, 0, none⟩) 3 3) (cs := #[.int .i64 0, .int .i64 1, .int .i64 1000000, .int .i64 1, .int .i64 0, .int .i64 1, .int .i64 1000000, .int .i64 7, .int .i64 1, .int .i64 0, .int .i64 (9999 + d), .int .i64 1]) HD7.out HW7.out (T := T) (by omega) hgl HD.out.1
                    exact bodyPost_ret (v := .agg #[.int .i64 N, .slice (some ⟨w7.heap.size, 0, none⟩) 3 3]) (by simp [results, Try.results21, go_sem, *]) rfl ⟨⟨N, [⟨0, 1, 1000000, 1⟩, ⟨0, 1, 1000000, 7⟩, ⟨1, 0, 9999 + d, 1⟩]⟩, _, rfl, ⟨by dsimp only; omega, by dsimp only; omega⟩, ⟨by simp, by simp⟩, ok_three d hd0 (by omega), ⟨w7.heap.size + 1, .inr ⟨w7.heap.size, 3, _, rfl, ⟨by omega, by omega⟩, by simp, by decide, e1, cs_three d⟩⟩, e2, e3⟩
                  · by_cases s4 : s = 4
                    · subst s4
                      have f51 : w5.frozen? ⟨T, 1, none⟩ = false := kT5.free 1
                      clear cZ fZ
                      go_wp2_with (refine list_selfRes (by rfl) _ _ (by rfl) B hi G cv zs (by rfl) (by rfl) HB5.out hBhi (by omega) (by omega) ?_; intro a9 c9 w9 hB9 hw9; have HB9 := Lib.hid hB9; clear hB9; have kT9 := hw9.blk kT5 (by omega); have cT90 : w9.cell? ⟨T, 0, none⟩ = some (.int .i64 N) := kT9.cell 0; have cT9 : w9.cell? ⟨T, 1, none⟩ = some (.slice (some ⟨G, 0, none⟩) zs.length cv) := kT9.cell 1; have fT9 : w9.frozen? ⟨T, 1, none⟩ = false := kT9.free 1; have lT9 := kT9.lt; have kZ9 := hw9.blk kZ5 (by omega); have cZ9 := kZ9.cell; have fZ9 := kZ9.free; have lZ9 := kZ9.lt)
                      have hs9 := hw9.size
                      exact bodyPost_ret (v := .agg #[.int .i64 N, .slice a9 (zs.length + zs.length) c9]) (by simp [results, Try.results21, go_sem, *]) rfl ⟨⟨N, zs ++ zs⟩, _, rfl, ⟨by dsimp only; omega, by dsimp only; omega⟩, (by refine ⟨?_, ?_⟩ <;> simp only [List.length_set, List.length_append] <;> omega), (by intro r hr; rcases List.mem_append.1 hr with h | h <;> exact HO.out r h), finNw (BldRes.past (Within.off (g := T) (o := 1) _) HB9.out (by omega)).own ((Src1.within9 hw9 HD5.out (by omega) (by have := HD.out.1; omega)).apart (by omega) (by have := HD.out.1; omega)) ((HW5.out.newer9 hw9 (by omega)).new _ _ _ (by omega)) (by omega) hgl HD.out.1⟩
                    · have s2 : s = 2 := by omega
                      subst s2
                      have HCS := Lib.hid hcs
                      have hid5 : Hid (Blk w5 G cs 39) := Lib.hid kG
                      have c51 : w5.cell? ⟨T, 1, none⟩ = some (.slice (some ⟨G, 0, none⟩) zs.length cv) := cT51
                      clear cZ fZ
                      go_upto_region 16 with fail
                      have hS : (fun w' : World => w'.cell? ⟨T, 1, none⟩ = some (.slice (some ⟨G, 0, none⟩) zs.length cv)) { w5 with drawn := w5.drawn + 1 } := c51
                      refine wp_region_any (by kernel_rfl) (wpAny_of_E (S := fun w' => w'.cell? ⟨T, 1, none⟩ = some (.slice (some ⟨G, 0, none⟩) zs.length cv)) (l := 11) _ _ _ _ ?_)
                      change wpAnyE _ _ _ _ _ _ _ _ _ w5.drew
                      refine wpAnyE_take (i := 0) (v := ?_) rfl (by kernel_rfl) (fun _ _ _ h => h) (Or.inl ⟨by rfl, ?_⟩) hS ?_
                      rotate_left
                      · intro w hSw; (try dsimp only at hSw); go_simp; (try with_reducible rfl)
                      try simp only [Act.put, List.setIfInBounds_toArray, List.set_cons_zero, List.set_cons_succ]
                      refine wpAnyE_take (i := 1) (v := ?_) rfl (by kernel_rfl) (fun _ _ _ h => h) (Or.inl ⟨by rfl, ?_⟩) hS ?_
                      rotate_left
                      · intro w hSw; (try dsimp only at hSw); go_simp; (try with_reducible rfl)
                      try simp only [Act.put, List.setIfInBounds_toArray, List.set_cons_zero, List.set_cons_succ]
                      refine wpAnyE_take (i := 2) (v := ?_) rfl (by kernel_rfl) (fun _ _ _ h => h) (Or.inl ⟨by rfl, ?_⟩) hS ?_
                      rotate_left
                      · intro w hSw; (try dsimp only at hSw); go_simp; (try with_reducible rfl)
                      try simp only [Act.put, List.setIfInBounds_toArray, List.set_cons_zero, List.set_cons_succ]
                      refine wpAnyE_take (i := 4) (v := ?_) rfl (by kernel_rfl) (fun _ _ _ h => h) (Or.inl ⟨by rfl, ?_⟩) hS ?_
                      rotate_left
                      · intro w hSw; (try dsimp only at hSw); go_simp; (try with_reducible rfl)
                      try simp only [Act.put, List.setIfInBounds_toArray, List.set_cons_zero, List.set_cons_succ]
                      refine wpAnyE_two (k := 3) (k' := 5) (by kernel_rfl) rfl rfl (fun K hK => ?_) (fun K hK => ?_)
                      · go_simp
                        have k5L : Blk (w5.drew.alloc (.cells #[.int .i64 0, .int .i64 1000000, .int .i64 1000001] 2)) w5.drew.heap.size #[.int .i64 0, .int .i64 1000000, .int .i64 1000001] 2 := Blk.new _ rfl
                        have hal : Below w5.heap.size w5 (w5.drew.alloc (.cells #[.int .i64 0, .int .i64 1000000, .int .i64 1000001] 2)) := ((Below.refl _ w5).drew).alloc (Nat.le_refl _) _
                        refine hK.out _ _ (fun _ => cell_by' hal c51) ?_
                        try simp only [Act.put, List.setIfInBounds_toArray, List.set_cons_zero, List.set_cons_succ]
                        refine wpAnyE_one (k := 5) (by kernel_rfl) rfl (fun K hK => ?_)
                        go_simp
                        go_at_call 22
                        refine (HN.out 3 _ (HD5.out.by hal) (by omega)).mono ?_
                        rintro e w7 ⟨d, rfl, hd0, hd1, hD7, ho7⟩
                        obtain ⟨dn, rfl⟩ : ∃ dn : Nat, d = (dn : Int) := ⟨d.toNat, (by omega)⟩
                        obtain ⟨V, hV⟩ := three_at dn (by omega)
                        have hs7 := ho7.size
                        have HD7 := Lib.hid hD7
                        have kT7 : Blk w7 T _ 26 := ho7.within2.blk (Blk.by hal kT5) (by omega)
                        have kZ7 : Blk w7 w.heap.size _ 26 := ho7.within2.blk (Blk.by hal kZ5) (by omega)
                        have kG7 : Blk w7 G _ 39 := ho7.within2.blk (Blk.by hal kG) (by omega)
                        have kI7 := ho7.within2.blk k5L (by simp; omega)
                        have HW7 : Hid (Within g (g + 1) w w7) := Lib.hid (((HW5.out.drewN 1).alloc _).on ho7.within2)
                        simp only [World.size_drew] at kI7
                        obtain ⟨L, hL⟩ : ∃ L, w5.heap.size = L := ⟨_, rfl⟩
                        rw [hL] at kI7
                        rw [hL]
                        have cT7 : w7.cell? ⟨T, 1, none⟩ = some (.slice (some ⟨G, 0, none⟩) zs.length cv) := kT7.cell 1
                        clear hal k5L hD7 ho7
                        refine hK.out _ _ (fun _ => cT7) ?_
                        try simp only [Act.put, List.setIfInBounds_toArray, List.set_cons_zero, List.set_cons_succ]
                        have cI7 : w7.cell? ⟨L, dn, none⟩ = some (.int .i64 V) := (kI7.cell _).trans hV.1
                        have lI7 := kI7.lt
                        have hdn : decide (dn < 3) = true := decide_eq_true (by omega)
                        have hdi : (dn : Int) < 3 := by omega
                        have cT70 : w7.cell? ⟨T, 0, none⟩ = some (.int .i64 N) := kT7.cell 0
                        have lT7 := kT7.lt
                        have cG70 : w7.cell? ⟨G, k * 4, none⟩ = some (.int .i64 xk.a) := (kG7.cell _).trans q0
                        have cG71 : w7.cell? ⟨G, k * 4 + 1, none⟩ = some (.int .i64 xk.b) := (kG7.cell _).trans q1
                        have cG72 : w7.cell? ⟨G, k * 4 + 2, none⟩ = some (.int .i64 xk.num) := (kG7.cell _).trans q2
                        have cG73 : w7.cell? ⟨G, k * 4 + 3, none⟩ = some (.int .i64 xk.den) := (kG7.cell _).trans q3
                        have fG7 := kG7.free
                        have lG7 := kG7.lt
                        have cZ7 := kZ7.cell
                        have fZ7 := kZ7.free
                        have lZ7 := kZ7.lt
                        clear hd1 hd0 cT50 cT51 cG0 cG1 cG2 cG3 fG lG lT5 lZ5 kT5 kZ5 kI7
                        refine wpAnyE_one (k := 6) (by kernel_rfl) rfl (fun K hK => ?_)
                        go_simp
                        refine hK.out _ _ (fun _ => cT7) ?_
                        try simp only [Act.put, List.setIfInBounds_toArray, List.set_cons_zero, List.set_cons_succ]
                        refine wpAnyE_one (k := 7) (by kernel_rfl) rfl (fun K hK => ?_)
                        go_simp
                        refine hK.out _ _ (fun _ => cT7) ?_
                        try simp only [Act.put, List.setIfInBounds_toArray, List.set_cons_zero, List.set_cons_succ]
                        refine wpAnyE_one (k := 8) (by kernel_rfl) rfl (fun K hK => ?_)
                        go_simp
                        refine hK.out _ _ (fun _ => cT7) ?_
                        try simp only [Act.put, List.setIfInBounds_toArray, List.set_cons_zero, List.set_cons_succ]
                        refine wpAnyE_one (k := 9) (by kernel_rfl) rfl (fun K hK => ?_)
                        go_simp
                        refine hK.out _ _ (fun _ => cT7) ?_
                        try simp only [Act.put, List.setIfInBounds_toArray, List.set_cons_zero, List.set_cons_succ]
                        refine wpAnyE_one (k := 10) (by kernel_rfl) rfl (fun K hK => ?_)
                        go_simp
                        refine hK.out _ _ (fun _ => cT7) ?_
                        try simp only [Act.put, List.setIfInBounds_toArray, List.set_cons_zero, List.set_cons_succ]
                        refine wpAnyE_one (k := 11) (by kernel_rfl) rfl (fun K hK => ?_)
                        go_simp
                        refine hK.out _ _ (fun h => absurd rfl h) ?_
                        refine wpAnyE_done (by kernel_rfl) ?_ _
                        clear hS
                        go_wp2
                        exact bodyPost_ret (v := .agg #[.int .i64 N, .slice (some ⟨G, 0, none⟩) zs.length cv]) (by simp [results, Try.results21, go_sem, *]) rfl ⟨⟨N, (zs.set k ⟨xk.a, xk.b, V, xk.den⟩).set k ⟨xk.a, xk.b, V, 1⟩⟩, _, rfl, ⟨by dsimp only; omega, by dsimp only; omega⟩, (by refine ⟨?_, ?_⟩ <;> simp only [List.length_set, List.length_append] <;> omega), ok_set (ok_set HO.out k ⟨xk.a, xk.b, V, xk.den⟩ ⟨hxo.1, hxo.2.1, ⟨by dsimp only; omega, by dsimp only; omega⟩, hxo.2.2.2⟩) k ⟨xk.a, xk.b, V, 1⟩ ⟨hxo.1, hxo.2.1, ⟨by dsimp only; omega, by dsimp only; omega⟩, ⟨by dsimp only; omega, by dsimp only; omega⟩⟩, finNw (.inr ⟨G, cv, _, by simp only [List.length_set], hG, by simp only [List.length_set]; exact hc1, hc2, (kG7.set (k * 4 + 2) (.int .i64 V)).set (k * 4 + 3) (.int .i64 1), cs_set (cs_set HCS.out k 2 (by omega) _ _ (at_set2 (HCS.out k xk hxk) _)) k 3 (by omega) _ _ (at_set3 (at_set2 (HCS.out k xk hxk) _) _)⟩) ((HD7.out.apart (by omega) (by have := HD.out.1; omega)).apart (by omega) (by have := HD.out.1; omega)) ((HW7.out.new _ _ _ (by omega)).new _ _ _ (by omega)) (by omega) hgl HD.out.1⟩
                      · go_simp
                        go_at_call 22
                        refine (HN.out 3 _ (HD5.out.by (Below.refl _ w5).drew) (by omega)).mono ?_
                        rintro e w6 ⟨d, rfl, hd0, hd1, hD6, ho7⟩
                        obtain ⟨dn, rfl⟩ : ∃ dn : Nat, d = (dn : Int) := ⟨d.toNat, (by omega)⟩
                        obtain ⟨V, hV⟩ := three_at dn (by omega)
                        have hs7 : w5.heap.size ≤ w6.heap.size := by rw [ho7.size]; exact Nat.le_refl _
                        have kT6 : Blk w6 T _ 26 := ho7.within2.blk kT5.drew (by omega)
                        refine hK.out _ _ (fun _ => kT6.cell 1) ?_
                        try simp only [Act.put, List.setIfInBounds_toArray, List.set_cons_zero, List.set_cons_succ]
                        refine wpAnyE_one (k := 3) (by kernel_rfl) rfl (fun K hK => ?_)
                        go_simp
                        have hal : Below w6.heap.size w6 (w6.alloc (.cells #[.int .i64 0, .int .i64 1000000, .int .i64 1000001] 2)) := (Below.refl _ w6).alloc (Nat.le_refl _) _
                        have kI7 : Blk (w6.alloc (.cells #[.int .i64 0, .int .i64 1000000, .int .i64 1000001] 2)) w6.heap.size #[.int .i64 0, .int .i64 1000000, .int .i64 1000001] 2 := Blk.new _ rfl
                        have kT7 := Blk.by hal kT6
                        have kZ7 : Blk _ w.heap.size _ 26 := Blk.by hal (ho7.within2.blk kZ5.drew (by omega))
                        have kG7 : Blk _ G _ 39 := Blk.by hal (ho7.within2.blk kG.drew (by omega))
                        have HW7 : Hid (Within g (g + 1) w _) := Lib.hid (((HW5.out.drewN 1).on ho7.within2).alloc (.cells #[.int .i64 0, .int .i64 1000000, .int .i64 1000001] 2))
                        have HD7 := Lib.hid (hD6.by hal)
                        obtain ⟨L, hL⟩ : ∃ L, w6.heap.size = L := ⟨_, rfl⟩
                        have hL' : L = w5.heap.size := by rw [← hL, ho7.size]; rfl
                        rw [eq_comm] at hL'
                        rw [hL] at kI7
                        rw [hL]
                        generalize w6.alloc (.cells #[.int .i64 0, .int .i64 1000000, .int .i64 1000001] 2) = w7 at *
                        have cT7 : w7.cell? ⟨T, 1, none⟩ = some (.slice (some ⟨G, 0, none⟩) zs.length cv) := kT7.cell 1
                        clear hal hD6 ho7 kT6
                        refine hK.out _ _ (fun _ => cT7) ?_
                        try simp only [Act.put, List.setIfInBounds_toArray, List.set_cons_zero, List.set_cons_succ]
                        have cI7 : w7.cell? ⟨L, dn, none⟩ = some (.int .i64 V) := (kI7.cell _).trans hV.1
                        have lI7 := kI7.lt
                        have hdn : decide (dn < 3) = true := decide_eq_true (by omega)
                        have hdi : (dn : Int) < 3 := by omega
                        have cT70 : w7.cell? ⟨T, 0, none⟩ = some (.int .i64 N) := kT7.cell 0
                        have lT7 := kT7.lt
                        have cG70 : w7.cell? ⟨G, k * 4, none⟩ = some (.int .i64 xk.a) := (kG7.cell _).trans q0
                        have cG71 : w7.cell? ⟨G, k * 4 + 1, none⟩ = some (.int .i64 xk.b) := (kG7.cell _).trans q1
                        have cG72 : w7.cell? ⟨G, k * 4 + 2, none⟩ = some (.int .i64 xk.num) := (kG7.cell _).trans q2
                        have cG73 : w7.cell? ⟨G, k * 4 + 3, none⟩ = some (.int .i64 xk.den) := (kG7.cell _).trans q3
                        have fG7 := kG7.free
                        have lG7 := kG7.lt
                        have cZ7 := kZ7.cell
                        have fZ7 := kZ7.free
                        have lZ7 := kZ7.lt
                        clear hd1 hd0 cT50 cT51 cG0 cG1 cG2 cG3 fG lG lT5 lZ5 kT5 kZ5 kI7
                        refine wpAnyE_one (k := 6) (by kernel_rfl) rfl (fun K hK => ?_)
                        go_simp
                        refine hK.out _ _ (fun _ => cT7) ?_
                        try simp only [Act.put, List.setIfInBounds_toArray, List.set_cons_zero, List.set_cons_succ]
                        refine wpAnyE_one (k := 7) (by kernel_rfl) rfl (fun K hK => ?_)
                        go_simp
                        refine hK.out _ _ (fun _ => cT7) ?_
                        try simp only [Act.put, List.setIfInBounds_toArray, List.set_cons_zero, List.set_cons_succ]
                        refine wpAnyE_one (k := 8) (by kernel_rfl) rfl (fun K hK => ?_)
                        go_simp
                        refine hK.out _ _ (fun _ => cT7) ?_
                        try simp only [Act.put, List.setIfInBounds_toArray, List.set_cons_zero, List.set_cons_succ]
                        refine wpAnyE_one (k := 9) (by kernel_rfl) rfl (fun K hK => ?_)
                        go_simp
                        refine hK.out _ _ (fun _ => cT7) ?_
                        try simp only [Act.put, List.setIfInBounds_toArray, List.set_cons_zero, List.set_cons_succ]
                        refine wpAnyE_one (k := 10) (by kernel_rfl) rfl (fun K hK => ?_)
                        go_simp
                        refine hK.out _ _ (fun _ => cT7) ?_
                        try simp only [Act.put, List.setIfInBounds_toArray, List.set_cons_zero, List.set_cons_succ]
                        refine wpAnyE_one (k := 11) (by kernel_rfl) rfl (fun K hK => ?_)
                        go_simp
                        refine hK.out _ _ (fun h => absurd rfl h) ?_
                        refine wpAnyE_done (by kernel_rfl) ?_ _
                        clear hS
                        go_wp2
                        exact bodyPost_ret (v := .agg #[.int .i64 N, .slice (some ⟨G, 0, none⟩) zs.length cv]) (by simp [results, Try.results21, go_sem, *]) rfl ⟨⟨N, (zs.set k ⟨xk.a, xk.b, V, xk.den⟩).set k ⟨xk.a, xk.b, V, 1⟩⟩, _, rfl, ⟨by dsimp only; omega, by dsimp only; omega⟩, (by refine ⟨?_, ?_⟩ <;> simp only [List.length_set, List.length_append] <;> omega), ok_set (ok_set HO.out k ⟨xk.a, xk.b, V, xk.den⟩ ⟨hxo.1, hxo.2.1, ⟨by dsimp only; omega, by dsimp only; omega⟩, hxo.2.2.2⟩) k ⟨xk.a, xk.b, V, 1⟩ ⟨hxo.1, hxo.2.1, ⟨by dsimp only; omega, by dsimp only; omega⟩, ⟨by dsimp only; omega, by dsimp only; omega⟩⟩, finNw (.inr ⟨G, cv, _, by simp only [List.length_set], hG, by simp only [List.length_set]; exact hc1, hc2, (kG7.set (k * 4 + 2) (.int .i64 V)).set (k * 4 + 3) (.int .i64 1), cs_set (cs_set HCS.out k 2 (by omega) _ _ (at_set2 (HCS.out k xk hxk) _)) k 3 (by omega) _ _ (at_set3 (at_set2 (HCS.out k xk hxk) _) _)⟩) ((HD7.out.apart (by omega) (by have := HD.out.1; omega)).apart (by omega) (by have := HD.out.1; omega)) ((HW7.out.new _ _ _ (by omega)).new _ _ _ (by omega)) (by omega) hgl HD.out.1⟩
      · have HB3 := Lib.hid hB3
        have HW3 := Lib.hid hW3
        have HD3 := Lib.hid hD3
        clear hB3 hW3 hD3
        go_wp2
        exact bodyPost_ret (v := .agg #[.int .i64 N, .slice av zs.length cv]) (by simp [results, Try.results21, go_sem, *]) rfl ⟨⟨N, zs⟩, _, rfl, ⟨by dsimp only; omega, by dsimp only; omega⟩, by dsimp only; omega, HO.out, finNw HB3.out.own HD3.out HW3.out (by omega) hgl HD.out.1⟩
end Go.Proofs.Ytjolkdckhmmenaa
