/- slices.Sorted(slices.Values(list)), and whether a list is a permutation of 0 .. n-1: the program's way and the reference's. -/
import Derived.Lib.SlKeysI
import Derived.Test.YtaiadcfgmichpaaSeqV
import Derived.Test.YtaiadcfgmichpaaShelf
import Derived.Test.YtaiadcfgmichpaaBldI
import Derived.Test.YtaiadcfgmichpaaInts
namespace Go.Proofs.Ytaiadcfgmichpaa
open Go.RowKit Go.Sort
set_option linter.unusedVariables false
set_option linter.unusedSimpArgs false

set_option maxHeartbeats 2000000 in
/-- slices.Sorted(slices.Values(s)): a new slice that holds the numbers in order. -/
theorem sorted_any (Bs : Nat) (sv : Value) (zs : List Int) (hlen : zs.length ≤ 1048576) (w : World) (hBs : Bs < w.heap.size) (hc : w.cell? ⟨Bs, 0, none⟩ = some sv) (hI : IntsAt w.heap.size w sv zs) :
    Calls Try.prog 92 #[.func (.func 141) #[] #[.pointer (some ⟨Bs, 0, none⟩)]] w fun e W' => ∃ v, e = .returned v ∧ BldI W' w.heap.size W'.heap.size v (srt zs) ∧ Below w.heap.size w W' := by
  have HA := Lib.hid (collect_any Bs sv zs hlen w hBs hc hI)
  have HS := Lib.hid (fun (blk off cap : Nat) (w : World) (hH : Holds (Value.int .i64) w blk off zs.toArray) (hblk : blk < w.heap.size) => Try.slices_Sort_int blk off cap zs w hH hblk (by omega))
  have HS0 := Lib.hid (fun (p : Option Addr) (cap : Nat) (w : World) => Try.slices_Sort_int_none p cap w)
  have hls := length_srt zs
  have HLS := Lib.hid hls
  clear hBs hc hI hls
  go_enter Try.func92, Try.ntmps92
  go_wp2_with fail
  refine HA.out.mono ?_
  rintro e W ⟨v, rfl, hrow, hnil, hb⟩
  rcases hrow.2 with ⟨rfl, hz⟩ | ⟨gb, cap, cur, rfl, hbase, hgb, r1, r2, r3, r4⟩
  · have hss : zs = [] := List.eq_nil_of_length_eq_zero hz
    subst hss
    have H := Lib.hid (And.intro hrow hb)
    clear hrow hb hnil hz
    go_wp2_with fail
    refine (HS0.out _ _ _).mono ?_
    rintro e w' ⟨rfl, rfl⟩
    go_wp2
    go_ret
    obtain ⟨hrow, hb⟩ := H.out
    exact ⟨_, rfl, ⟨Nat.le_refl _, by simpa [icells, srt] using hrow, by intro g h; cases h⟩, hb⟩
  · have hH : Holds (Value.int .i64) W gb 0 zs.toArray := holds_of_block_i hgb (by simpa using r4)
    have hgl : gb < W.heap.size := (Array.getElem?_eq_some_iff.1 hgb).1
    have cS := Lib.hid (HS.out gb 0 cap W hH hgl)
    have H := Lib.hid (And.intro hrow (And.intro hb (And.intro hgb (And.intro r3 r4))))
    have HN := Lib.hid (And.intro hbase (And.intro r1 r2))
    clear hrow hb hgb r3 r4 hnil hH hbase r1 r2
    go_wp2_with fail
    refine cS.out.mono ?_
    rintro e w' ⟨rfl, nn, os, rfl⟩
    obtain ⟨hrow, hb, hgb, r3, r4⟩ := H.out
    obtain ⟨hbase, r1, r2⟩ := HN.out
    have hR : (grow (putRow (Value.int .i64) (Sort.ahead W nn) gb 0 ((zs.mergeSort fun x y => decide (x ≤ y)).toArray)) os).ownsRow w.heap.size 2 1 (.slice (some ⟨gb, 0, none⟩) zs.length cap) zs.length ((srt zs).map (Value.int .i64)) := ownsRow_sorted_i (n := nn) (os := os) (ts := srt zs) HLS.out hbase hgb r1 r2 r3
    have hB : Below w.heap.size w (grow (putRow (Value.int .i64) (Sort.ahead W nn) gb 0 ((zs.mergeSort fun x y => decide (x ≤ y)).toArray)) os) := hb.grown (grownBy_sorted_i (n := nn) (os := os) (srt zs).toArray) hb.size (fun j hj => by cases hj; exact hbase)
    have HR := Lib.hid (And.intro hR hB)
    generalize hW : grow (putRow (Value.int .i64) (Sort.ahead W nn) gb 0 ((zs.mergeSort fun x y => decide (x ≤ y)).toArray)) os = W2 at *
    clear hrow hb hgb r3 r4 hbase r1 r2 hR hB hW
    go_wp2
    go_ret
    obtain ⟨hR, hB⟩ := HR.out
    refine ⟨_, rfl, ⟨Nat.le_refl _, ?_, fun g hg => hR.lt g hg⟩, hB⟩
    rw [HLS.out]
    exact hR

set_option maxRecDepth 100000 in
set_option maxHeartbeats 2000000 in
theorem implOrder_any (sv : Value) (zs : List Int) (n : Int) (w : World) (h : IntSl w sv zs) (hl : zs.length ≤ 1048576) :
    Calls Try.prog 82 #[sv, .int .i64 n] w fun e w' => e = .returned (.bool (permB zs n)) ∧ Below w.heap.size w w' := by
  have H := Lib.hid h
  have HNO := Lib.hid (fun k v hk hne => permB_srt_no (zs := zs) (n := n) (k := k) (v := v) hk hne)
  have HALL := Lib.hid (permB_srt_all (zs := zs) (n := n))
  have HLS := Lib.hid (length_srt zs)
  have HSO := Lib.hid (fun Bs sv w h1 h2 h3 => sorted_any Bs sv zs hl w h1 h2 h3)
  obtain ⟨a, c, rfl⟩ := h.len
  generalize permB zs n = r at *
  clear h
  go_enter Try.func82, Try.ntmps82
  go_wp2_with (first | (go_at_call 93; refine (values_any _ _ _ _).mono ?_; rintro e w' ⟨rfl, rfl⟩) | (go_at_call 92; refine (HSO.out w.heap.size (.slice a zs.length c) _ (by simp) ((Blk.new (cs := #[.slice a zs.length c]) (T := 26) w.heap.size rfl : Blk (w.alloc _) w.heap.size _ _).cell 0) ((H.out.by ((Below.refl _ w).alloc (Nat.le_refl _) _)).at)).mono ?_; rintro e w1 ⟨v, rfl, hB, hb⟩; have hI := hB.own.sl; have HI := Lib.hid hI; obtain ⟨a1, c1, rfl⟩ := hI.len; rw [HLS.out]; have HB := Lib.hid hb; clear hB hI hb))
  go_loop [13] (fun i => ∃ k : Nat, k ≤ zs.length ∧ i = .int .i64 k ∧ Hid (∀ (j : Nat) v, j < k → (srt zs)[j]? = some v → v = j)) (fun i => zs.length - (intOf i).toNat)
  case atStart => exact ⟨0, Nat.zero_le _, rfl, Lib.hid (by intro j v hj; omega)⟩
  case round =>
    obtain ⟨k, hk, rfl, HK⟩ := hrel
    have hls := HLS.out
    by_cases hlt : k < zs.length
    · obtain ⟨x, hx⟩ : ∃ x, (srt zs)[k]? = some x := ⟨(srt zs)[k]'(by omega), List.getElem?_eq_getElem (by omega)⟩
      rcases HI.out with ⟨_, _, _, h2⟩ | ⟨b, off, cap, he, h2, h3, h4⟩
      · rw [h2] at hls; simp at hls; omega
      obtain ⟨rfl, rfl⟩ : a1 = some ⟨b, off, none⟩ ∧ c1 = cap := by simpa [hls] using he
      have c1' := h4 k x hx
      have HX := Lib.hid hx
      have i1 : (0 : Int) ≤ (k : Int) := by omega
      have i2 : (k : Int) < (zs.length : Int) := by omega
      clear h4 hx he h2 h3 hls
      by_cases hxk : x = (k : Int)
      · have hd : decide (x = (k : Int)) = true := decide_eq_true hxk
        subst hxk
        go_wp2
        go_round
        case rel =>
          refine ⟨k + 1, by omega, by go_num, Lib.hid (fun j v hj hv => ?_)⟩
          by_cases e : j = k
          · subst e
            have := HX.out
            rw [hv] at this
            cases this; rfl
          · exact HK.out j v (by omega) hv
        case measure => simp [intOf]; omega
      · go_wp2
        go_ret
        exact ⟨ret_bool (HNO.out k x HX.out hxk).symm, below_on HB.out ((Below.refl _ w).alloc (Nat.le_refl _) _)⟩
    · obtain rfl : k = zs.length := by omega
      have HR : r = decide ((zs.length : Int) = n) := HALL.out (fun j v hv => HK.out j v (by have := (List.getElem?_eq_some_iff.1 hv).1; omega) hv)
      have HR' := Lib.hid HR
      clear HR hls
      go_wp2
      go_ret
      exact ⟨ret_bool HR'.out.symm, below_on HB.out ((Below.refl _ w).alloc (Nat.le_refl _) _)⟩
end Go.Proofs.Ytaiadcfgmichpaa
