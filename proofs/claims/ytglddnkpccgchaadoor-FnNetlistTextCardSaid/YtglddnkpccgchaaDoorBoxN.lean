/- A netlist under construction in a box of one's own: its rows lie behind the box, the ports' row ahead of all of the devices'. -/
import Derived.Test.YtglddnkpccgchaaDoorSrtB
import Derived.Test.YtglddnkpccgchaaDoorBldg
import Derived.Test.YtglddnkpccgchaaDoorMarks
import Derived.Test.YtglddnkpccgchaaDoorRdD
namespace Go.Proofs.YtglddnkpccgchaaDoor
open Go.RowKit
set_option linter.unusedVariables false
set_option linter.unusedSimpArgs false

theorem OwnR.keep {w w' : World} {f : Nat} {sv : Value} {zs : List Int} (h : OwnR w f (f + 1) sv zs) (he : w'.heap[f]? = w.heap[f]?) : OwnR w' f (f + 1) sv zs := by
  rcases h with h | ⟨g, cap, cs, h1, h2, h3, h4, h5, h6, h7⟩
  · exact .inl h
  · obtain rfl : g = f := by omega
    refine .inr ⟨g, cap, cs, h1, h2, h3, h4, h5, ?_, h7⟩
    unfold Blk at h6 ⊢
    rw [he]
    exact h6
section
variable {w w' : World} {lo : Nat} {v : Value} {L : List Tr}
theorem Out.past {a b : Nat} (hb : Within a b w w') (h : Out w lo v L) (hd : b ≤ lo) : Out w' lo v L := by
  obtain ⟨h0, h1, h2, h3⟩ := h
  refine ⟨Nat.le_trans h0 hb.size, row_same h1 (fun g hg => hb.block g (h1.lt g hg).2 (by have := h1.lt g hg; omega)), fun t ht => ?_, h3⟩
  obtain ⟨⟨a, b, c⟩, d⟩ := h2 t ht
  exact ⟨⟨a.keep (hb.block _ c (by omega)), b, Nat.lt_of_lt_of_le c hb.size⟩, d⟩
theorem Out.nil (hlo : lo ≤ w.heap.size) : Out w lo (.slice none 0 0) [] := ⟨hlo, World.ownsRow_nil w lo _ 4, by simp, by simp⟩
/-- One device more, at the end. -/
theorem Out.push {w0 : World} {k f g c : Nat} {pv : Value} {x : Dv} (h : Out w0 lo v L) (hb : Below w0.heap.size w0 w) (hk : L.length = k) (hf : OwnR w f (f + 1) pv x.pins) (hf1 : w0.heap.size ≤ f) (hf2 : f < w.heap.size)
    (hgr : w.grownBy w' v.ownBlock) (hg : v.ownBlock = some g ∨ g = w.heap.size) (hr : w'.ownsRow lo 52 4 (.slice (some ⟨g, 0, none⟩) (k + 1) c) (k + 1) (tcells L ++ tcell (x, pv, f))) : Out w' lo (.slice (some ⟨g, 0, none⟩) (k + 1) c) (L ++ [(x, pv, f)]) := by
  have h1o := h.2.1
  have h00 := h.1
  obtain ⟨h0, h1, h2, h3⟩ := h.by hb
  have hsz := hb.size
  refine ⟨Nat.le_trans h0 hgr.size, ?_, fun t ht => ?_, ?_⟩
  · rw [List.length_append, List.length_singleton, hk, tcells_append]
    simpa [tcells] using hr
  · rcases List.mem_append.1 ht with ht | ht
    · obtain ⟨⟨a, b, c⟩, d⟩ := h2 t ht
      refine ⟨⟨a.keep (hgr.block _ c (fun e => d e.symm)), b, Nat.lt_of_lt_of_le c hgr.size⟩, fun e => ?_⟩
      have e1 : g = t.2.2 := by injection e
      rcases hg with hg | hg
      · exact d (by rw [hg, e1])
      · omega
    · obtain rfl : t = (x, pv, f) := by simpa using ht
      refine ⟨⟨hf.keep (hgr.block _ hf2 (fun e => by have := h1o.lt f e.symm; omega)), by dsimp only; omega, Nat.lt_of_lt_of_le hf2 hgr.size⟩, fun e => ?_⟩
      have e1 : g = f := by injection e
      rcases hg with hg | hg
      · have := h1o.lt _ hg; omega
      · omega
  · rw [List.map_append, List.nodup_append]
    refine ⟨h3, by simp, fun a ha b hb' => ?_⟩
    obtain ⟨t, ht, rfl⟩ := List.mem_map.1 ha
    have := (h.2.2.1 t ht).1.2.2
    simp at hb'
    omega
end
/-- The box and what it holds. -/
def BoxN (w : World) (NB lo : Nat) (x : Nl) : Prop := ∃ (mid : Nat) (dv pv : Value) (L : List Tr), Blk w NB #[.int .i64 x.nets, dv, pv] 31 ∧ (NB < lo ∧ lo ≤ mid) ∧ BldP w lo mid pv x.ps ∧ Out w mid dv L ∧ L.map (·.1) = x.ds ∧ (x.ds = [] → dv = .slice none 0 0)
section
variable {w w' : World} {NB lo : Nat} {x : Nl}
theorem BoxN.by (hb : Below w.heap.size w w') (h : BoxN w NB lo x) : BoxN w' NB lo x := by
  obtain ⟨mid, dv, pv, L, h1, h2, h3, h4, h5, h6⟩ := h
  exact ⟨mid, dv, pv, L, Blk.by hb h1, h2, h3.by hb, h4.by hb, h5, h6⟩
theorem BoxN.lt (h : BoxN w NB lo x) : NB < lo ∧ lo ≤ w.heap.size := by
  obtain ⟨mid, dv, pv, L, h1, h2, h3, h4, h5, h6⟩ := h
  have := h4.1
  omega
theorem BoxN.nets (h : BoxN w NB lo x) (z : Int) : BoxN (w.setCell ⟨NB, 0, none⟩ (.int .i64 z)) NB lo { x with nets := z } := by
  obtain ⟨mid, dv, pv, L, h1, h2, h3, h4, h5, h6⟩ := h
  exact ⟨mid, dv, pv, L, h1.set 0 _, h2, h3.past (Within.off _) (by omega), h4.past (Within.off _) (by omega), h5, h6⟩
/-- The netlist by value, in memory of its own. -/
theorem BoxN.own (h : BoxN w NB lo x) : ∃ a1 c1 a2 c2, Blk w NB #[.int .i64 x.nets, .slice a1 x.ds.length c1, .slice a2 x.ps.length c2] 31 ∧ OwnNl w lo w.heap.size (.agg #[.int .i64 x.nets, .slice a1 x.ds.length c1, .slice a2 x.ps.length c2]) x := by
  obtain ⟨mid, dv, pv, L, h1, h2, h3, h4, h5, h6⟩ := h
  obtain ⟨a1, c1, rfl⟩ := h4.sized
  obtain ⟨a2, c2, rfl⟩ := h3.sized
  have hl : L.length = x.ds.length := by rw [← h5, List.length_map]
  have ho := h4.own
  rw [h5] at ho
  rw [hl] at h1 ho
  have hm := h4.1
  exact ⟨a1, c1, a2, c2, h1, _, _, mid, w.heap.size, lo, mid, rfl, ho, h3.own, ⟨h2.2, Nat.le_refl _⟩, ⟨Nat.le_refl _, hm⟩, .inr (Nat.le_refl _)⟩
/-- A port more. -/
theorem BoxN.port {w1 : World} {mid : Nat} {a : Option Addr} {c : Nat} {dv : Value} {p : Pt} (hk : Blk w1 NB #[.int .i64 x.nets, .slice none 0 0, dv] 31) (hlo : NB < lo) (hlm : lo ≤ w1.heap.size) (hp : BldP w1 lo w1.heap.size (.slice a (x.ps.length + 1) c) (x.ps ++ [p])) (hd : x.ds = []) :
    BoxN (w1.setCell ⟨NB, 2, none⟩ (.slice a (x.ps.length + 1) c)) NB lo { x with ps := x.ps ++ [p] } := by
  refine ⟨w1.heap.size, .slice none 0 0, .slice a (x.ps.length + 1) c, [], hk.set 2 _, ⟨hlo, hlm⟩, hp.past (Within.off _) (by omega), Out.nil (by simp), by rw [hd]; rfl, fun _ => rfl⟩
/-- A device more. -/
theorem BoxN.dev {w1 : World} {mid : Nat} {dv dv0 pv : Value} {d : Dv} {L : List Tr} (hk : Blk w1 NB #[.int .i64 x.nets, dv0, pv] 31) (hlo : NB < lo ∧ lo ≤ mid) (hp : BldP w1 lo mid pv x.ps) (ho : Out w1 mid dv L) (hL : L.map (·.1) = x.ds ++ [d]) :
    BoxN (w1.setCell ⟨NB, 1, none⟩ dv) NB lo { x with ds := x.ds ++ [d] } := by
  refine ⟨mid, dv, pv, L, hk.set 1 _, hlo, hp.past (Within.off _) (by omega), ho.past (Within.off _) (by omega), hL, fun e => absurd e (by simp)⟩
end
/-- The words of a line: one new block. -/
theorem strings_Split_any (s : ByteArray) (B : Nat) (w : World) (hs : s.size ≤ 1048576) (hG : Glob B w) :
    Calls Tryd.prog 68 #[.string s, .string ⟨#[32]⟩] w fun e w' => e = .returned (.slice (some ⟨w.heap.size, 0, none⟩) (wrdS 32 s).length (wrdS 32 s).length) ∧ StrSl w' (.slice (some ⟨w.heap.size, 0, none⟩) (wrdS 32 s).length (wrdS 32 s).length) (wrdS 32 s) ∧ Below w.heap.size w w' := by
  obtain ⟨_, _, _, _, m, hm⟩ := hG
  have hc := Tryd.strings_Split s ⟨#[32]⟩ m w (by omega) hm (by decide)
  rw [splitB_wrd 32 s] at hc
  have hl : Go.Lib.countB s ⟨#[32]⟩ + 1 = (wrdS 32 s).length := by
    rw [← splitB_wrd 32 s]
    exact (Go.Lib.splitB_all ⟨#[32]⟩ (by decide) 0 _ s rfl).symm
  rw [hl] at hc
  have hle := (wrd_size 32 s).2.1
  refine hc.mono ?_
  rintro e w' ⟨rfl, rfl⟩
  have hB : Blk (w.alloc (.cells ((wrdS 32 s).map Value.string).toArray 9)) w.heap.size ((wrdS 32 s).map Value.string).toArray 9 := Blk.new _ rfl
  refine ⟨rfl, .inr ⟨w.heap.size, 0, _, rfl, Nat.le_refl _, by simp, fun i y hy => ?_⟩, (Below.refl _ w).alloc (Nat.le_refl _) _⟩
  rw [hB.cell]
  simp [hy]
end Go.Proofs.YtglddnkpccgchaaDoor
