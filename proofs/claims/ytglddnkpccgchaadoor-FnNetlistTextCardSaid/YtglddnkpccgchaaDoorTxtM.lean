/- What the parser reads is nothing, or valid; a bound widened. -/
import Derived.Test.YtglddnkpccgchaaDoorNetPs
import Derived.Test.YtglddnkpccgchaaDoorPrsA
import Derived.Test.YtglddnkpccgchaaDoorSrc
import Derived.Test.YtglddnkpccgchaaDoorCopies
import Derived.Deep.AppendLies
import Derived.Deep.AppendSrc
import Derived.Test.YtglddnkpccgchaaDoorDmg
import Derived.Test.YtglddnkpccgchaaDoorDrawNls
import Derived.Test.YtglddnkpccgchaaDoorFmtZ
namespace Go.Proofs.YtglddnkpccgchaaDoor
open Go.RowKit
set_option linter.unusedVariables false

theorem Tab10.up2 {B B' : Nat} {w : World} (h : Tab10 B w) (hB : B ≤ B') : Tab10 B' w := fun w' hb => h w' (hb.mono hB)
theorem Glob.up {B B' : Nat} {w : World} (h : Glob B w) (hB : B ≤ B') : Glob B' w := ⟨h.1.up2 hB, Nat.lt_of_lt_of_le h.2.1 hB, h.2.2⟩
/-- What is read is nothing, or valid. -/
theorem prsL_valid : ∀ (L : List (List UInt8)) (i : Nat) (x : Nl), nlB x = true → nlB (prsL i x L).1 = true
  | [], i, x, h => h
  | [l], i, x, h => by
    unfold prsL
    split
    · exact h
    · exact nlB_nl0
  | l :: m :: r, i, x, h => by
    unfold prsL
    split
    · exact nlB_nl0
    · split
      · rename_i h2
        exact prsL_valid (m :: r) (i + 1) _ h2
      · exact nlB_nl0
end Go.Proofs.YtglddnkpccgchaaDoor

/- other(code): three bytes ahead of the code's. -/
namespace Go.Proofs.YtglddnkpccgchaaDoor
open Go.RowKit
set_option linter.unusedVariables false
set_option linter.unusedSimpArgs false

theorem infoB8 : (Tryd.prog.info? 5).map (fun i => (i.zero, i.size, i.bytes)) = some (some (.int .u8 0), 1, 1) := by kernel_rfl
def bcells (zs : List Int) : List Value := zs.map (Value.int .u8)
/-- Bytes as a list. -/
theorem Bytes.list {w : World} {b off n cap : Nat} (h : ∀ i, i < n → ∃ x : Int, w.cell? ⟨b, off + i, none⟩ = some (.int .u8 x) ∧ 0 ≤ x ∧ x ≤ 255) :
    ∃ zs : List Int, zs.length = n ∧ ∀ (i : Nat) z, zs[i]? = some z → w.cell? ⟨b, off + i, none⟩ = some (.int .u8 z) ∧ 0 ≤ z ∧ z ≤ 255 := by
  have h1 : ∀ i : Nat, ∃ x : Int, i < n → w.cell? ⟨b, off + i, none⟩ = some (.int .u8 x) ∧ 0 ≤ x ∧ x ≤ 255 := fun i => by
    by_cases hi : i < n
    · obtain ⟨x, hx⟩ := h i hi
      exact ⟨x, fun _ => hx⟩
    · exact ⟨0, fun h => absurd h hi⟩
  obtain ⟨f, hf⟩ := Classical.axiomOfChoice h1
  refine ⟨(List.range n).map f, by simp, fun i z hz => ?_⟩
  rw [List.getElem?_map] at hz
  have hi : i < n := by
    rcases Nat.lt_or_ge i n with h | h
    · exact h
    · rw [List.getElem?_eq_none (by simpa using h)] at hz
      cases hz
  rw [List.getElem?_range hi] at hz
  cases hz
  exact hf i hi
/-- append(out, xs...) at bytes, xs not empty. -/
theorem list_catB {ops : Array Oper} {rest : List Oper} {o : Oper} {a : Act} {w : World} {Q : Exit → Act → World → Prop} (hgd : o.guard = none) (s x : Operand)
    (ho : o.op = .call { callee := .builtin .append, args := #[s, x], argTypes := #[39, 39] })
    (g0 : Nat) (cs : Array Value) (xs : List Value) (n0 : Nat) (hs : a.eval s = .slice (some ⟨g0, 0, none⟩) n0 n0) (hB : Blk w g0 cs 5) (hcs : cs.toList = xs) (hxs : xs.length = n0) (zs : List Int) (b off cap : Nat) (hx : a.eval x = .slice (some ⟨b, off, none⟩) zs.length cap)
    (hz : ∀ (i : Nat) z, zs[i]? = some z → w.cell? ⟨b, off + i, none⟩ = some (.int .u8 z)) (h0 : 0 < zs.length) (hn : n0 + zs.length ≤ 5000)
    (hK : ∀ g c w', w'.ownsRow g0 5 1 (.slice (some ⟨g, 0, none⟩) (n0 + zs.length) c) (n0 + zs.length) (xs ++ bcells zs) → w.grownBy w' (some g0) → wpList Tryd.prog ops Q rest (a.put o.dst (.slice (some ⟨g, 0, none⟩) (n0 + zs.length) c)) w') : wpList Tryd.prog ops Q (o :: rest) a w :=
  wpList_plain hgd fun K hk => by
    obtain ⟨i0, hi0, hz0, hz1, hz2⟩ := info_parts infoB8
    have hsz : cs.size = n0 := by rw [← Array.length_toList, hcs, hxs]
    have h1 : w.ownsRow g0 5 1 (.slice (some ⟨g0, 0, none⟩) n0 n0) n0 xs := ⟨by rw [hxs]; omega, .inr ⟨g0, n0, cs, rfl, Nat.le_refl _, hB, Nat.le_refl _, by unfold maxLen; omega, by omega, by rw [hcs, List.take_of_length_le (by omega)]⟩⟩
    have h := step_append_lies (ops := ops) (K := K) (Q := Q) (E := False) w hgd s x 39 ho g0 5 i0 _ 1 1 Tryd.underlying39 hi0 hz0 hz1 hz2 rfl (by decide) _ n0 _ hs h1 ⟨b, off, none⟩ zs.length cap (bcells zs) hx (by simp [bcells]) (fun j u hu => by
      simp only [bcells, List.getElem?_map, Option.map_eq_some_iff] at hu
      obtain ⟨z, hzz, rfl⟩ := hu
      rw [Addr.add_lit]
      exact hz j z hzz) (fun u hu => by
      simp only [bcells, List.mem_map] at hu
      obtain ⟨_, _, rfl⟩ := hu
      rfl) h0 (by unfold maxLen; omega) (by omega) (Nat.le_of_lt hB.lt) w.heap.size rfl (fun g c w' h1 h2 _ _ => hk _ _ (hK g c w' h1 h2))
    rwa [if_pos (by simp [Region.wanted, hgd])] at h
theorem run_catZ (b n c : Nat) (a2 : Option Addr) (c2 : Nat) (ty : TypeId) (hn : n ≤ c) (w : World) :
    (Builtin.append_ #[39, 39] ty #[.slice (some ⟨b, 0, none⟩) n c, .slice a2 0 c2]).run Tryd.prog w = .ok (.slice (some ⟨b, 0, none⟩) n c) w := by
  obtain ⟨i0, hi0, hz0, hz1, hz2⟩ := info_parts infoB8
  have hs : Src Tryd.prog i0.size 39 (.slice a2 0 c2) 0 [] w := by
    cases a2 with
    | none => exact Src.ofNil w Tryd.underlying39 c2
    | some ad => exact Src.ofSlice w Tryd.underlying39 ad 0 c2 [] (by simp) (fun j u h => by simp at h) (fun u h => by simp at h)
  have h := run_append_room_src w 39 39 ty _ i0 Tryd.underlying39 hi0 b 0 n c (.slice a2 0 c2) 0 [] hs (by omega) (fun j hj => by simp at hj) (fun j hj => by simp at hj)
  simpa [World.setCells] using h
/-- append(v, nothing..). -/
theorem list_catZ {ops : Array Oper} {rest : List Oper} {o : Oper} {a : Act} {w : World} {Q : Exit → Act → World → Prop} (hgd : o.guard = none) (s x : Operand)
    (ho : o.op = .call { callee := .builtin .append, args := #[s, x], argTypes := #[39, 39] })
    (b n c : Nat) (a2 : Option Addr) (c2 : Nat) (hs : a.eval s = .slice (some ⟨b, 0, none⟩) n c) (hx : a.eval x = .slice a2 0 c2) (hn : n ≤ c)
    (hK : wpList Tryd.prog ops Q rest (a.put o.dst (.slice (some ⟨b, 0, none⟩) n c)) w) : wpList Tryd.prog ops Q (o :: rest) a w :=
  wpList_plain hgd fun K hk => by
    have hr := run_catZ b n c a2 c2 o.type hn w
    unfold Oper.wp execOp
    simp only [ho, resolve, invoke, builtin, Sem.run_bind, Sem.run_pure, Result.andThen_ok, List.map_toArray, List.map_cons, List.map_nil, hs, hx, hr]
    exact hk _ _ hK
theorem three_at {zs : List Int} {i : Nat} (hz : ∀ (i : Nat) z, zs[i]? = some z → 0 ≤ z ∧ z ≤ 255) (hi : i < 3 + zs.length) : ∃ z : Int, (([.int .u8 27, .int .u8 34, .int .u8 81] : List Value) ++ bcells zs)[i]? = some (.int .u8 z) ∧ 0 ≤ z ∧ z ≤ 255 := by
  match i, hi with
  | 0, _ => exact ⟨27, rfl, by omega, by omega⟩
  | 1, _ => exact ⟨34, rfl, by omega, by omega⟩
  | 2, _ => exact ⟨81, rfl, by omega, by omega⟩
  | i + 3, hi =>
    have e : zs[i]? = some (zs[i]'(by omega)) := List.getElem?_eq_getElem _
    refine ⟨zs[i]'(by omega), ?_, hz i _ e⟩
    show (bcells zs)[i]? = _
    rw [bcells, List.getElem?_map, e]
    rfl
set_option maxRecDepth 100000 in
set_option maxHeartbeats 2000000 in
theorem other_any (v0 : Value) (n : Nat) (w : World) (h : Bytes w v0 n) (hn : n ≤ 4096) :
    Calls Tryd.prog 20 #[v0, .int .u8 27] w fun e w' => ∃ v', e = .returned v' ∧ Bytes w' v' (n + 3) ∧ Below w.heap.size w w' := by
  have hal : Below w.heap.size w (w.alloc (.cells #[.int .u8 27, .int .u8 34, .int .u8 81] 5)) := (Below.refl _ w).alloc (Nat.le_refl _) _
  have kB : Blk (w.alloc (.cells #[.int .u8 27, .int .u8 34, .int .u8 81] 5)) w.heap.size #[.int .u8 27, .int .u8 34, .int .u8 81] 5 := Blk.new _ rfl
  have h2 := h.by hal
  have hcase : (∃ a c, v0 = .slice a 0 c ∧ n = 0) ∨ (0 < n ∧ ∃ b off cap, v0 = .slice (some ⟨b, off, none⟩) n cap ∧ ∀ i, i < n → ∃ x : Int, (w.alloc (.cells #[.int .u8 27, .int .u8 34, .int .u8 81] 5)).cell? ⟨b, off + i, none⟩ = some (.int .u8 x) ∧ 0 ≤ x ∧ x ≤ 255) := by
    rcases h2 with h2 | ⟨b, off, cap, rfl, q2, q3, q4⟩
    · exact .inl h2
    · rcases Nat.eq_zero_or_pos n with h0 | h0
      · exact .inl ⟨_, _, by rw [h0], h0⟩
      · exact .inr ⟨h0, b, off, cap, rfl, q4⟩
  have HAL := Lib.hid hal
  clear h h2 hal
  rcases hcase with ⟨a0, c0, rfl, rfl⟩ | ⟨h0, b, off, cap, rfl, q4⟩
  · have HBY : Hid (Bytes (w.alloc (.cells #[.int .u8 27, .int .u8 34, .int .u8 81] 5)) (.slice (some ⟨w.heap.size, 0, none⟩) 3 3) 3) := Lib.hid (.inr ⟨w.heap.size, 0, 3, rfl, Nat.le_refl _, by decide, fun i hi => by
      rw [kB.cell]
      match i, hi with
      | 0, _ => exact ⟨27, rfl, by omega, by omega⟩
      | 1, _ => exact ⟨34, rfl, by omega, by omega⟩
      | 2, _ => exact ⟨81, rfl, by omega, by omega⟩⟩)
    clear kB
    go_enter Tryd.func20, Tryd.ntmps20
    go_wp2_with (refine list_catZ (by rfl) _ _ (by rfl) w.heap.size 3 3 a0 c0 (by rfl) (by rfl) (by omega) ?_)
    go_ret
    exact ⟨_, rfl, HBY.out, HAL.out⟩
  · obtain ⟨zs, hzl, hz⟩ := Bytes.list (cap := cap) q4
    subst hzl
    clear q4
    go_enter Tryd.func20, Tryd.ntmps20
    go_wp2_with (refine list_catB (by rfl) _ _ (by rfl) w.heap.size #[.int .u8 27, .int .u8 34, .int .u8 81] [.int .u8 27, .int .u8 34, .int .u8 81] 3 (by rfl) kB rfl rfl zs b off cap (by rfl) (fun i z h => (hz i z h).1) (by omega) (by omega) ?_; intro g c w' hrow hgr)
    go_ret
    refine ⟨.slice (some ⟨g, 0, none⟩) (3 + zs.length) c, rfl, ?_, ?_⟩
    · have hc := hrow.cells rfl
      obtain ⟨hlen, hd⟩ := hrow
      rcases hd with ⟨e1, _⟩ | ⟨g', cap', cur, e1, e2, e3, e4, e5, _⟩
      · cases e1
      · simp only [Value.slice.injEq] at e1
        obtain ⟨_, _, rfl⟩ := e1
        refine .inr ⟨g, 0, c, by rw [Nat.add_comm], by omega, e5, fun i hi => ?_⟩
        obtain ⟨z, hzz, hz0⟩ := three_at (zs := zs) (i := i) (fun i z h => (hz i z h).2) (by omega)
        refine ⟨z, ?_, hz0⟩
        have := hc i _ hzz
        rw [Addr.add_lit] at this
        simpa using this
    · exact ⟨hgr.os.trans HAL.out.os, hgr.tape.trans HAL.out.tape, hgr.output.trans HAL.out.output, Nat.le_trans HAL.out.size hgr.size, fun k hk => (hgr.block k (by simp only [World.size_alloc]; omega) (fun e => by have := Option.some.inj e; omega)).trans (HAL.out.block k hk)⟩
end Go.Proofs.YtglddnkpccgchaaDoor

/- The draws of FnNetlistText: a small netlist, and some text. -/
namespace Go.Proofs.YtglddnkpccgchaaDoor
open Go.RowKit
set_option linter.unusedVariables false
set_option linter.unusedSimpArgs false

def sixB : Array Value := #[.string ⟨#[112, 111, 114, 116, 32, 122, 32, 48, 10]⟩, .string ⟨#[114, 32, 48, 32, 48, 32, 50, 32, 50, 10]⟩, .string ⟨#[110, 32, 48, 32, 48, 32, 48, 32, 49, 32, 49, 10]⟩, .string ⟨#[114, 32, 48, 32, 57, 32, 49, 32, 49, 10]⟩, .string ⟨#[10]⟩, .string ⟨#[110, 32, 48, 32, 48, 32, 48, 32, 49, 32, 49, 50, 51, 52, 53, 54, 55, 56, 10]⟩]
theorem six_at (q : Int) (h0 : 0 ≤ q) (h5 : q < 6) : ∃ u : ByteArray, sixB[q.toNat]? = some (.string u) ∧ u.size ≤ 19 := by
  have : q = 0 ∨ q = 1 ∨ q = 2 ∨ q = 3 ∨ q = 4 ∨ q = 5 := by omega
  rcases this with rfl | rfl | rfl | rfl | rfl | rfl
  · exact ⟨_, rfl, by decide⟩
  · exact ⟨_, rfl, by decide⟩
  · exact ⟨_, rfl, by decide⟩
  · exact ⟨_, rfl, by decide⟩
  · exact ⟨_, rfl, by decide⟩
  · exact ⟨_, rfl, by decide⟩

set_option maxRecDepth 100000 in
set_option maxHeartbeats 4000000 in
theorem drawFormat_any (v0 : Value) (n : Nat) (w : World) (h : Bytes w v0 n) (hn : n ≤ 5000) :
    Calls Tryd.prog 16 #[v0] w fun e w' => ∃ (v : Value) (x : Nl), e = .returned v ∧ Hid (NlV w' v x) ∧ Hid (Small x) ∧ Below w.heap.size w w' := by
  have HB := Lib.hid h
  obtain ⟨w0, hw0⟩ : ∃ z, z = w.alloc (.cells #[.int .i64 0, .slice none 0 0, .slice none 0 0] 31) := ⟨_, rfl⟩
  have kR0 : Blk w0 w.heap.size #[.int .i64 0, .slice none 0 0, .slice none 0 0] 31 := by rw [hw0]; exact Blk.new _ rfl
  have hb0 : Below w.heap.size w w0 := by rw [hw0]; exact (Below.refl _ w).alloc (Nat.le_refl _) _
  have hs0 : w0.heap.size = w.heap.size + 1 := by rw [hw0]; simp
  have hf := l01From_wide v0 n w0 (HB.out.by hb0) hn
  obtain ⟨G, hG⟩ : ∃ G, w0.heap.size = G := ⟨_, rfl⟩
  rw [hG] at hf hs0
  have HF := Lib.hid hf
  have HD := Lib.hid (fun w h => l27DrawNetlist_any w0 G v0 n w h)
  have hGw : w.heap.size < G := by omega
  have HG := Lib.hid hG
  clear h hf hs0 hG
  go_enter Tryd.func16, Tryd.ntmps16
  go_wp2_with fail
  (try rw [← hw0])
  clear hw0
  refine HF.out.mono ?_
  rintro e w1 ⟨rfl, hD1, hb1⟩
  have kR1 : Blk w1 w.heap.size _ 31 := Blk.by (by rw [HG.out]; exact hb1) kR0
  have HD1 := Lib.hid hD1
  have hG1 := hD1.lt
  clear hD1 hb1
  go_wp2_with fail
  refine (HD.out _ HD1.out).mono ?_
  rintro e w2 ⟨v, x, rfl, HO, HS, HD2, HW2⟩
  obtain ⟨s1, s2, rfl, r1, r2⟩ := HO.out
  obtain ⟨a1, c1, rfl⟩ := (show ∃ a c, s1 = .slice a x.ds.length c by obtain ⟨l, h, r, o⟩ := r1; exact o.sl.sized)
  obtain ⟨a2, c2, rfl⟩ := (show ∃ a c, s2 = .slice a x.ps.length c by obtain ⟨l, h, r, o⟩ := r2; exact o.sl.sized)
  have kR2 := HW2.out.blk kR1 (by omega)
  have hb2 : Below w.heap.size w w2 := below_on HD2.out.2.1 hb0
  have HNL : Hid (NlV (((w2.setCell ⟨w.heap.size, 0, none⟩ (.int .i64 x.nets)).setCell ⟨w.heap.size, 1, none⟩ (.slice a1 x.ds.length c1)).setCell ⟨w.heap.size, 2, none⟩ (.slice a2 x.ps.length c2)) (.agg #[.int .i64 x.nets, .slice a1 x.ds.length c1, .slice a2 x.ps.length c2]) x) := Lib.hid ((((HO.out.low (show w.heap.size + 1 ≤ w1.heap.size by omega)).past (Within.off (g := w.heap.size) (o := 0) (.int .i64 x.nets)) (Nat.le_refl _)).past (Within.off (g := w.heap.size) (o := 1) (.slice a1 x.ds.length c1)) (Nat.le_refl _)).past (Within.off (g := w.heap.size) (o := 2) (.slice a2 x.ps.length c2)) (Nat.le_refl _)).nl
  have qR := kR2.cell
  have fR := kR2.free
  have lR := kR2.lt
  have hbf : Below w.heap.size w (((w2.setCell ⟨w.heap.size, 0, none⟩ (.int .i64 x.nets)).setCell ⟨w.heap.size, 1, none⟩ (.slice a1 x.ds.length c1)).setCell ⟨w.heap.size, 2, none⟩ (.slice a2 x.ps.length c2)) := ((hb2.setCell (Nat.le_refl _) _).setCell (Nat.le_refl _) _).setCell (Nat.le_refl _) _
  clear HO HD2 HW2 kR1 r1 r2 HD1 hb0 kR0 kR2 hb2
  go_wp2
  refine bodyPost_ret (v := .agg #[.int .i64 x.nets, .slice a1 x.ds.length c1, .slice a2 x.ps.length c2]) (by simp [results, Tryd.results16, go_sem, *]) rfl ⟨_, x, rfl, HNL, HS, hbf⟩
set_option maxRecDepth 100000 in
set_option maxHeartbeats 4000000 in
theorem drawParse_any (v0 : Value) (n : Nat) (w : World) (h : Bytes w v0 n) (hn : n ≤ 5000) :
    Calls Tryd.prog 19 #[v0] w fun e w' => ∃ t : ByteArray, e = .returned (.string t) ∧ t.size ≤ 400000 ∧ Below w.heap.size w w' := by
  have hf := l01From_wide v0 n w h hn
  obtain ⟨G, hG⟩ : ∃ G, w.heap.size = G := ⟨_, rfl⟩
  rw [hG] at hf
  have HF := Lib.hid hf
  have HD := Lib.hid (fun w1 h => l27DrawNetlist_any w G v0 n w1 h)
  have HN := Lib.hid (fun m w1 h => l01Next_all w G v0 n m w1 h)
  have HDM := Lib.hid (fun t w1 h ht => l16Damage_any w G v0 n t w1 h ht)
  have HFM := Lib.hid (fun (x : Nl) v w h (hS : Small x) => specFormat_any x v w h hS.2.2.2.2 hS.fits)
  have HZ := Lib.hid size_fmtS
  have HG := Lib.hid hG
  clear h hf
  go_enter Tryd.func19, Tryd.ntmps19
  rw [hG]
  clear hG
  go_wp2_with fail
  refine HF.out.mono ?_
  rintro e w1 ⟨rfl, hD1, hb1⟩
  have HD1 := Lib.hid hD1
  clear hD1 hb1
  go_wp2_with fail
  refine (HD.out _ HD1.out).mono ?_
  rintro e w2 ⟨v, x, rfl, HO, HS, HD2, HW2⟩
  have HV := Lib.hid HO.out.nl
  obtain ⟨a1, c1, a2, c2, rfl⟩ := HV.out.sized
  clear HO HW2 HD1
  go_wp2_with fail
  refine (HFM.out x _ w2 HV.out HS.out).mono ?_
  rintro e w3 ⟨rfl, hb3⟩
  have HD3 := Lib.hid (HD2.out.by hb3)
  have hts := HZ.out x
  generalize fmtS x = t at *
  clear hb3 HD2 HV HS
  go_wp2_with fail
  refine (HN.out 10 _ HD3.out).mono ?_
  rintro e w4 ⟨y, rfl, hy0, hy1, hD4, ho4⟩
  have HD4 := Lib.hid hD4
  clear hD4 ho4 hy0 hy1 HD3
  by_cases y0 : y = 0
  · subst y0
    have hal : Below w4.heap.size w4 (w4.alloc (.cells sixB 9)) := (Below.refl _ w4).alloc (Nat.le_refl _) _
    have kS : Blk (w4.alloc (.cells sixB 9)) w4.heap.size sixB 9 := Blk.new _ rfl
    have HD5 := Lib.hid (HD4.out.by hal)
    have hgl := HD4.out.lt
    clear hal
    unfold sixB at kS HD5
    go_wp2_with fail
    refine (HN.out 6 _ HD5.out).mono ?_
    rintro e w6 ⟨q, rfl, hq0, hq1, hD6, ho6⟩
    obtain ⟨u, hu, hus⟩ := six_at q hq0 (by omega)
    unfold sixB at hu
    obtain ⟨j, rfl⟩ := Int.eq_ofNat_of_zero_le hq0
    rw [Int.toNat_natCast] at hu
    have kS6 := ho6.within.blk kS (by omega)
    have qS : w6.cell? ⟨w4.heap.size, j, none⟩ = some (.string u) := (kS6.cell _).trans hu
    have lS := lt_of_cell qS
    dsimp only at lS
    have j6 : (j : Int) < 6 := by omega
    have ha1 := adds t u (by omega)
    unfold Adds at ha1
    have HD6 := Lib.hid hD6
    clear kS HD5 hgl hu hq1 hD6 ho6 kS6
    go_wp2
    refine bodyPost_ret (v := .string (t ++ u)) (by simp [results, Tryd.results19, go_sem, *]) rfl ⟨_, rfl, by rw [ByteArray.size_append]; omega, by have := HD6.out.2.1; rwa [HG.out] at this⟩
  have z0 : (y == 0) = false := by simpa using y0
  by_cases y1 : y = 1 ∨ y = 2
  · have hd := HDM.out t w4 HD4.out (by omega)
    have HDD := Lib.hid hd
    clear hd y0
    rcases y1 with rfl | rfl
    all_goals
      go_wp2_with fail
      refine HDD.out.mono ?_
      rintro e w5 ⟨t', rfl, hts', hD5⟩
      have HD5 := Lib.hid hD5
      clear hD5
      go_wp2
      refine bodyPost_ret (v := .string t') (by simp [results, Tryd.results19, go_sem, *]) rfl ⟨_, rfl, by omega, by have := HD5.out.2.1; rwa [HG.out] at this⟩
  · have z1 : (y == 1) = false := by simp; omega
    have z2 : (y == 2) = false := by simp; omega
    clear y0 y1
    go_wp2
    refine bodyPost_ret (v := .string t) (by simp [results, Tryd.results19, go_sem, *]) rfl ⟨_, rfl, by omega, by have := HD4.out.2.1; rwa [HG.out] at this⟩
end Go.Proofs.YtglddnkpccgchaaDoor
