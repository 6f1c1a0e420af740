/- The program's decimal and join. -/
import Derived.Test.YtglddnkpccgchaaDoorFmtI
import Derived.Test.YtglddnkpccgchaaDoorSBld
import Derived.Test.YtglddnkpccgchaaDoorShelf
import Derived.Lib.AppendIntMem
import Derived.Deep.DeepCutAuto
namespace Go.Proofs.YtglddnkpccgchaaDoor
open Go.RowKit
set_option linter.unusedVariables false
set_option linter.unusedSimpArgs false

/-- The library's table of powers of ten stands, whatever is done from block B on. -/
def Tab10 (B : Nat) (w : World) : Prop := Go.Lib.TabBelow Tryd.prog B w "internal/strconv.uint64pow10" .u64 Go.Lib.pow10Tab
theorem Tab10.on {B : Nat} {w w' : World} (h : Tab10 B w) (hb : Below B w w') : Tab10 B w' := Go.Lib.TabBelow.on h hb
theorem below_grow10 (w : World) (n : Nat) (os : Array Obj) : Below w.heap.size w (Go.Sort.grow (w.drewN n) os) :=
  ⟨rfl, rfl, rfl, by simp [Go.Sort.grow], fun i hi => by
    show ((w.drewN n).heap ++ os)[i]? = _
    rw [Array.getElem?_append_left (by show i < w.heap.size; omega)]
    rfl⟩

theorem belowB_of {B g : Nat} {w w' : World} (h : Within g (g + 1) w w') (hB : B ≤ g) (hg : g < w.heap.size) : Below B w w' := ⟨h.os, h.tape, h.output, h.size, fun k hk => h.block k (by omega) (.inl (by omega))⟩
theorem Within.thenB {lo hi : Nat} {a w w' : World} (h : Within lo hi a w) (hb : Below w.heap.size w w') : Within lo hi a w' :=
  ⟨hb.os.trans h.os, hb.tape.trans h.tape, hb.output.trans h.output, Nat.le_trans h.size hb.size, fun k hk hne => (hb.block k (Nat.lt_of_lt_of_le hk h.size)).trans (h.block k hk hne)⟩
theorem Within.grow {g g1 : Nat} {a w w' : World} (h : Within g (g + 1) a w) (hgr : w.grownBy w' (some g1)) (hg : g1 = g ∨ a.heap.size ≤ g1) : Within g (g + 1) a w' :=
  ⟨hgr.os.trans h.os, hgr.tape.trans h.tape, hgr.output.trans h.output, Nat.le_trans h.size hgr.size, fun k hk hne => (hgr.block k (Nat.lt_of_lt_of_le hk h.size) (fun e => by have := Option.some.inj e; omega)).trans (h.block k hk hne)⟩

set_option maxRecDepth 100000 in
theorem decimal_any (z : Int) (h0 : 0 ≤ z) (h1 : z ≤ 1000000000000000000) (B : Nat) (w : World) (hT : Tab10 B w) :
    Calls Tryd.prog 58 #[.int .i64 z] w fun e w' => e = .returned (.string (numS z.toNat)) ∧ Below w.heap.size w w' := by
  have hc := Tryd.strconv_FormatInt_10 z (by omega) (by omega) w hT.here
  rw [itoa_numS z h0] at hc
  have HC := Lib.hid hc
  generalize numS z.toNat = M at *
  clear hc hT
  go_enter Tryd.func58, Tryd.ntmps58
  go_wp2_with (go_at_call 83; refine HC.out.mono ?_; rintro e w1 ⟨rfl, k, os, rfl⟩)
  go_ret
  exact ⟨rfl, below_grow10 _ _ _⟩

set_option maxRecDepth 100000 in
set_option maxHeartbeats 2000000 in
/-- strings.Join of the words and the numbers' decimal forms. -/
theorem join_any (B g n c nb cap m : Nat) (cs : Array Value) (ws : List ByteArray) (zs : List Int) (w : World) (hT : Tab10 B w) (hW : SBld w g n c ws) (hB : B ≤ g) (hn : n ≤ 10) (hN : Blk w nb cs 2) (hm : zs.length = m) (hm10 : m ≤ 10)
    (hcap : m ≤ cap) (hcm : cap ≤ maxLen) (hcs : ∀ (i : Nat) z, zs[i]? = some z → cs[i]? = some (.int .i64 z)) (hws : ∀ x ∈ ws, x.size ≤ 10) (hz : ∀ z ∈ zs, 0 ≤ z ∧ z ≤ 1000000) (hne : g ≠ nb) :
    Calls Tryd.prog 26 #[.slice (some ⟨g, 0, none⟩) n c, .slice (some ⟨nb, 0, none⟩) m cap] w fun e w' => e = .returned (.string (jnB (ws ++ zs.map (fun z => numS z.toNat)) spB)) ∧ Within g (g + 1) w w' := by
  have HW := Lib.hid hW
  have HT := Lib.hid hT
  have HDE := Lib.hid (fun z (h : z ∈ zs) w (hT : Tab10 B w) => decimal_any z (hz z h).1 (by have := hz z h; omega) B w hT)
  have HSZ : Hid (∀ x ∈ ws ++ zs.map (fun z => numS z.toNat), x.size ≤ 1000001) := Lib.hid (by
    intro x hx
    rcases List.mem_append.1 hx with h | h
    · have := hws x h; omega
    · obtain ⟨z, hzm, rfl⟩ := List.mem_map.1 h
      have := size_numS z.toNat
      have := hz z hzm
      omega)
  have HJ := Lib.hid (fun bk o c xs sep w h1 h2 h3 h4 h5 => Tryd.strings_Join bk o c xs sep w h1 h2 h3 h4 h5)
  have hgl : g < w.heap.size := hW.2.2
  have hnl : nb < w.heap.size := hN.lt
  have hwl : ws.length = n := hW.2.1
  have HWL := Lib.hid hwl
  have HML := Lib.hid hm
  have hw0 : Within g (g + 1) w w := ⟨rfl, rfl, rfl, Nat.le_refl _, fun _ _ _ => rfl⟩
  have HCS := Lib.hid hcs
  clear hW hT hws hz hwl hcs hm
  go_enter Tryd.func26, Tryd.ntmps26
  go_wp2_with fail
  go_loopw [0, 6, 9] (fun v0 v6 i wr => ∃ (k g1 n1 c1 : Nat), k ≤ m ∧ i = .int .i64 (k : Int) ∧ v0 = .slice (some ⟨g1, 0, none⟩) n1 c1 ∧ Hid (n1 = n + k) ∧ Hid (SBld wr g1 n1 c1 (ws ++ (zs.take k).map (fun z => numS z.toNat))) ∧ Hid (g1 = g ∨ w.heap.size ≤ g1) ∧ Hid (Within g (g + 1) w wr)) (fun _ _ i _ => m - (intOf i).toNat)
  case atStart => exact ⟨0, g, n, c, Nat.zero_le _, rfl, rfl, Lib.hid rfl, Lib.hid (by simpa using HW.out), Lib.hid (.inl rfl), Lib.hid hw0⟩
  case round =>
    clear hw0
    obtain ⟨k, g1, n1, c1, hk, rfl, rfl, HN1, HS, HG, HWI⟩ := hrel
    have kN := HWI.out.blk hN (by omega)
    have hszr := HWI.out.size
    by_cases hlt : k < m
    · obtain ⟨z, hz⟩ : ∃ z, zs[k]? = some z := ⟨_, List.getElem?_eq_getElem (by rw [HML.out]; exact hlt)⟩
      have q1 : wr.cell? ⟨nb, k, none⟩ = some (.int .i64 z) := (kN.cell k).trans (HCS.out k z hz)
      have hb1 : Below B w wr := belowB_of HWI.out hB hgl
      have hD := HDE.out z (List.mem_of_getElem? hz) wr (HT.out.on hb1)
      have HD := Lib.hid hD
      have HTK : Hid ((zs.take (k + 1)).map (fun z => numS z.toNat) = (zs.take k).map (fun z => numS z.toNat) ++ [numS z.toNat]) := Lib.hid (by rw [List.take_add_one, hz]; simp)
      obtain ⟨M, hM⟩ : ∃ M, numS z.toNat = M := ⟨_, rfl⟩
      rw [hM] at HD HTK
      have i1 : (0 : Int) ≤ (k : Int) := by omega
      have i2 : (k : Int) < (m : Int) := by omega
      have hlN := kN.lt
      clear hD hb1 hz hM kN
      obtain ⟨L, hL⟩ : ∃ L, ws ++ (zs.take k).map (fun z => numS z.toNat) = L := ⟨_, rfl⟩
      rw [hL] at HS
      have HL := Lib.hid hL
      clear hL
      have hn1 : n1 ≤ 20 := by have := HN1.out; omega
      go_wp2_with fail
      refine HD.out.mono ?_
      rintro e w1 ⟨rfl, hb1⟩
      have HS1 := Lib.hid (HS.out.by hb1)
      have HWI1 := Lib.hid (HWI.out.thenB hb1)
      have hs1 := hb1.size
      clear hb1 HS HWI
      go_wp2_with (refine list_pushT (by rfl) _ _ (by rfl) g1 n1 c1 L (by rfl) (HS1.out.by (by ((repeat (first | (with_reducible exact Below.refl _ _) | (with_reducible refine below_drewN ?_ _) | (with_reducible refine Below.drew ?_) | (with_reducible refine below_al ?_ _) | (with_reducible refine below_on (by assumption) ?_) | ((with_reducible refine Below.setCell ?_ ?_ _); rotate_left; focus (first | omega | (simp; done) | (simp; omega))) | (with_reducible assumption))); done))) w1.heap.size M (by rfl) (Blk.new _ rfl) (by omega) ?_; intro g2 c2 w2 hS2 hgr hg2)
      have HG2 : Hid (g2 = g ∨ w.heap.size ≤ g2) := Lib.hid (by
        have := HG.out
        simp only [World.size_alloc] at hg2
        omega)
      refine ⟨⟨k + 1, g2, n1 + 1, c2, by omega, by go_num, rfl, Lib.hid (by have := HN1.out; omega), Lib.hid ?_, HG2, Lib.hid ((HWI1.out.alloc _).grow hgr HG.out)⟩, by simp [intOf]; omega⟩
      rw [HTK.out, ← List.append_assoc, HL.out]
      exact hS2
    · obtain rfl : k = m := by omega
      have i2 : ¬ (k : Int) < (k : Int) := by omega
      have hS := HS.out
      rw [show zs.take k = zs from List.take_of_length_le (by rw [HML.out]; omega)] at hS
      obtain ⟨hc1, hcell⟩ := hS.cell
      have hlen := hS.2.1
      have hgl1 := hS.2.2
      have hjb := jn_bound (ws ++ zs.map (fun z => numS z.toNat)) ⟨#[32]⟩ 1000001 HSZ.out
      have hn1 : n1 ≤ 20 := by have := HN1.out; omega
      have z1 : (ByteArray.mk #[32]).size = 1 := rfl
      have hj2 : (Go.Lib.join ((ws ++ zs.map (fun z => numS z.toNat)).map (·.data.toList)) (⟨#[32]⟩ : ByteArray).data.toList).length ≤ 140737488355328 := by
        rw [hlen, z1] at hjb
        have : n1 * (1 + 1000001) ≤ 20 * (1 + 1000001) := Nat.mul_le_mul_right _ hn1
        omega
      have hJ := HJ.out g1 0 c1 (ws ++ zs.map (fun z => numS z.toNat)) ⟨#[32]⟩ wr (fun j x hx => by rw [Nat.zero_add]; exact hcell j x hx) hgl1 (by omega) (by omega) hj2
      rw [hlen] at hJ
      replace hJ : Calls Tryd.prog 28 #[.slice (some ⟨g1, 0, none⟩) n1 c1, .string ⟨#[32]⟩] wr fun e w' => e = .returned (.string (jnB (ws ++ zs.map (fun z => numS z.toNat)) spB)) ∧ Below wr.heap.size wr w' := hJ
      obtain ⟨J, hJe⟩ : ∃ J, jnB (ws ++ zs.map (fun z => numS z.toNat)) spB = J := ⟨_, rfl⟩
      rw [hJe] at hJ
      have HJE := Lib.hid hJe
      clear hJe
      have HJJ := Lib.hid hJ
      clear hJ hj2 hjb hcell hlen hS HS HSZ HDE z1
      go_wp2_with fail
      refine HJJ.out.mono ?_
      rintro e w1 ⟨rfl, hb1⟩
      go_wp2
      go_ret
      exact ⟨by rw [HJE.out]; rfl, HWI.out.thenB hb1⟩
end Go.Proofs.YtglddnkpccgchaaDoor
