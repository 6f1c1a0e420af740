/- Contracts and plain laws, part 12, for the statement's proof. -/
import Derived.Test.YtehmiekendkjmaaGreatPkMtLaw11
import Derived.BigRegion
namespace Go.Proofs.YtehmiekendkjmaaGreat
open Go.RowKit
set_option linter.unusedVariables false
set_option linter.unusedSimpArgs false
theorem addr_injM {a b : Nat} (h : (some ⟨a, 0, none⟩ : Option Addr) = some ⟨b, 0, none⟩) : a = b := by
  injection h with h
  injection h
theorem cellE {E : Nat → Prop} {w w' : World} {b o : Nat} {v : Value} (h : Exc E w w') (hc : w.cell? ⟨b, o, none⟩ = some v) (hb : ¬ E b) : w'.cell? ⟨b, o, none⟩ = some v := by
  have hl := lt_of_cell hc
  unfold World.cell? at hc ⊢
  rw [h.block b hl hb]
  exact hc
theorem Within.cellM {lo hi : Nat} {w w' : World} {b o : Nat} {v : Value} (h : Within lo hi w w') (hc : w.cell? ⟨b, o, none⟩ = some v) (hb : b < lo ∨ hi ≤ b) : w'.cell? ⟨b, o, none⟩ = some v := by
  have hl := lt_of_cell hc
  unfold World.cell? at hc ⊢
  rw [h.block b hl hb]
  exact hc
theorem NlA.drew {w : World} {m : Nat} {v : Value} (h : NlA m w v) : NlA m w.drew v := h.by (Below.drew (Below.refl _ w))
theorem NlA.drewN {w : World} {m : Nat} {v : Value} (h : NlA m w v) (k : Nat) : NlA m (w.drewN k) v := h.by (below_of_drewN w k)
theorem NlA.offN {w : World} {m B o : Nat} {cs : Array Value} {v u : Value} (h : NlA m w v) (hB : Blk w B cs 27) : NlA m (w.setCell ⟨B, o, none⟩ u) v := by
  obtain ⟨x, ⟨s1, s2, e, ⟨l1, h1, r1, o1⟩, l2, h2, r2, o2⟩, h3⟩ := h
  exact ⟨x, ⟨s1, s2, e, ⟨l1, h1, r1, o1.offTy hB (by decide) (by decide)⟩, l2, h2, r2, o2.offTy hB (by decide)⟩, h3⟩
structure PrE (W0 w4 : World) (g n : Nat) (sv : Value) (hi B : Nat) (NY : Int) (sd sp : Value) (L3 L4 : Nat) (wx : World) : Prop where
  src : Src1 W0 g sv n wx
  ex : Exc (fun b => b = g) w4 wx
  b : Blk wx B #[.int .i64 NY, sd, sp] 27
  ds : DsA wx w4.heap.size hi sd L3
  ps : PsA wx w4.heap.size hi sp L4
section
variable {W0 w4 wx wy : World} {g n hi B L3 L4 : Nat} {sv sd sp : Value} {NY : Int}
theorem PrE.only (h : PrE W0 w4 g n sv hi B NY sd sp L3 L4 wx) (ho : Only g wx wy) (hs : Src1 W0 g sv n wy) (hg : g < w4.heap.size) (hB : w4.heap.size ≤ B) : PrE W0 w4 g n sv hi B NY sd sp L3 L4 wy :=
  ⟨hs, h.ex.on (Exc.ofWithin ho.within (fun k h1 h2 => by show k = g; omega)), ho.within.blk h.b (by omega), h.ds.past ho.within (by omega), h.ps.past ho.within (by omega)⟩
theorem PrE.by (h : PrE W0 w4 g n sv hi B NY sd sp L3 L4 wx) (hb : Below wx.heap.size wx wy) : PrE W0 w4 g n sv hi B NY sd sp L3 L4 wy :=
  ⟨h.src.by hb, h.ex.on (Exc.ofBelow hb), Blk.by hb h.b, h.ds.by hb, h.ps.by hb⟩
theorem PrE.setI {F j : Nat} {cs : Array Value} {v : Int} (h : PrE W0 w4 g n sv hi B NY sd sp L3 L4 wx) (hF : Blk wx F cs 2) (hg : g < w4.heap.size) (h0 : W0.heap.size ≤ g) (hl : w4.heap.size ≤ F) :
    PrE W0 w4 g n sv hi B NY sd sp L3 L4 (wx.setCell ⟨F, j, none⟩ (.int .i64 v)) :=
  ⟨h.src.apart (by omega) (by omega), h.ex.set _ _ _ (fun h => by omega), h.b.apart _ _ _ (fun e => by subst e; exact absurd (h.b.differ2 hF) (by decide)), h.ds.setI hF, h.ps.offTy hF (by decide)⟩
theorem PrE.setW {b c k m : Nat} {cs : Array Value} {v : Int} (h : PrE W0 w4 g n sv hi B NY (.slice (some ⟨b, 0, none⟩) m c) sp L3 L4 wx) (hF : Blk wx b cs 54) (hk : k < L3) (hg : g < w4.heap.size) (h0 : W0.heap.size ≤ g) (hl : w4.heap.size ≤ b) :
    PrE W0 w4 g n sv hi B NY (.slice (some ⟨b, 0, none⟩) m c) sp L3 L4 (wx.setCell ⟨b, k * 4 + 2, none⟩ (.int .i64 v)) :=
  ⟨h.src.apart (by omega) (by omega), h.ex.set _ _ _ (fun h => by omega), h.b.apart _ _ _ (fun e => by subst e; exact absurd (h.b.differ2 hF) (by decide)), h.ds.setW hk, h.ps.offTy hF (by decide)⟩
theorem PrE.setP {P o : Nat} {cs : Array Value} {v : Value} (h : PrE W0 w4 g n sv hi B NY sd sp L3 L4 wx) (hF : Blk wx P cs 52) (hp : PsA (wx.setCell ⟨P, o, none⟩ v) w4.heap.size hi sp L4) (hg : g < w4.heap.size) (h0 : W0.heap.size ≤ g) (hl : w4.heap.size ≤ P) :
    PrE W0 w4 g n sv hi B NY sd sp L3 L4 (wx.setCell ⟨P, o, none⟩ v) :=
  ⟨h.src.apart (by omega) (by omega), h.ex.set _ _ _ (fun h => by omega), h.b.apart _ _ _ (fun e => by subst e; exact absurd (h.b.differ2 hF) (by decide)), h.ds.offTy hF (by decide) (by decide), hp⟩
theorem PrE.setN {v : Int} (h : PrE W0 w4 g n sv hi B NY sd sp L3 L4 wx) (hg : g < w4.heap.size) (h0 : W0.heap.size ≤ g) (hl : w4.heap.size ≤ B) :
    PrE W0 w4 g n sv hi B v sd sp L3 L4 (wx.setCell ⟨B, 0, none⟩ (.int .i64 v)) :=
  ⟨h.src.apart (by omega) (by omega), h.ex.set _ _ _ (fun h => by omega), by simpa using h.b.set 0 (.int .i64 v), h.ds.offTy h.b (by decide) (by decide), h.ps.offTy h.b (by decide)⟩
theorem PrE.setD {m c : Nat} {a : Option Addr} (h : PrE W0 w4 g n sv hi B NY (.slice a L3 c) sp L3 L4 wx) (hm : m ≤ L3) (hg : g < w4.heap.size) (h0 : W0.heap.size ≤ g) (hl : w4.heap.size ≤ B) :
    PrE W0 w4 g n sv hi B NY (.slice a m c) sp m L4 (wx.setCell ⟨B, 1, none⟩ (.slice a m c)) :=
  ⟨h.src.apart (by omega) (by omega), h.ex.set _ _ _ (fun h => by omega), by simpa using h.b.set 1 (.slice a m c), (h.ds.take hm).offTy h.b (by decide) (by decide), h.ps.offTy h.b (by decide)⟩
end
structure Bx3 (G : Nat) (wx : World) : Prop where
  r2 : Blk wx G #[.int .i64 0, .slice none 0 0, .slice none 0 0] 27
  r3 : Blk wx (G + 1) #[.int .i64 0, .slice none 0 0, .slice none 0 0] 27
  r4 : Blk wx (G + 2) #[.slice none 0 0, .slice none 0 0] 32
theorem Bx3.past {G lo hi : Nat} {w w' : World} (h : Bx3 G w) (hW : Within lo hi w w') (hd : hi ≤ G ∨ G + 3 ≤ lo) : Bx3 G w' :=
  ⟨hW.blk h.r2 (by omega), hW.blk h.r3 (by omega), hW.blk h.r4 (by omega)⟩
theorem Bx3.by {G : Nat} {w w' : World} (h : Bx3 G w) (hb : Below w.heap.size w w') : Bx3 G w' := ⟨Blk.by hb h.r2, Blk.by hb h.r3, Blk.by hb h.r4⟩
theorem Bx3.exc {G : Nat} {E : Nat → Prop} {w w' : World} (h : Bx3 G w) (hb : Exc E w w') (hE : ∀ k, G ≤ k → ¬ E k) : Bx3 G w' := ⟨hb.blk h.r2 (hE _ (Nat.le_refl _)), hb.blk h.r3 (hE _ (by omega)), hb.blk h.r4 (hE _ (by omega))⟩
theorem Bx3.apart {G b o : Nat} {w : World} {v : Value} (h : Bx3 G w) (hb : G + 3 ≤ b) : Bx3 G (w.setCell ⟨b, o, none⟩ v) := ⟨h.r2.apart _ _ _ (by omega), h.r3.apart _ _ _ (by omega), h.r4.apart _ _ _ (by omega)⟩
structure PrF (W0 : World) (G A M B : Nat) (N NY : Int) (s1 s2 t1 t2 sd sp : Value) (wx : World) : Prop where
  a : Blk wx A #[.int .i64 N, s1, s2] 27
  b : Blk wx B #[.int .i64 NY, sd, sp] 27
  m : Blk wx M #[t1, t2] 32
  bx : Bx3 G wx
  na : NlA (G + 3) wx (.agg #[.int .i64 N, s1, s2])
  nb : NlA (G + 3) wx (.agg #[.int .i64 NY, sd, sp])
  bl : Below W0.heap.size W0 wx
def MaSh (t : Value) : Prop := ∃ (b1 : Option Addr) (p d1 : Nat) (b2 : Option Addr) (q d2 : Nat), t = .agg #[.slice b1 p d1, .slice b2 q d2]
def Tri (A B M : Nat) (ca cb cm : Array Value) (w : World) : Prop := Blk w A ca 27 ∧ Blk w B cb 27 ∧ Blk w M cm 32
theorem Tri.facts {A B M : Nat} {ca cb cm : Array Value} {w : World} (h : Tri A B M ca cb cm w) : (∀ o, w.cell? ⟨A, o, none⟩ = ca[o]?) ∧ (∀ o, w.cell? ⟨B, o, none⟩ = cb[o]?) ∧ (∀ o, w.cell? ⟨M, o, none⟩ = cm[o]?) ∧ A < w.heap.size ∧ B < w.heap.size ∧ M < w.heap.size :=
  ⟨h.1.cell, h.2.1.cell, h.2.2.cell, h.1.lt, h.2.1.lt, h.2.2.lt⟩
theorem Tri.off {A B M g o : Nat} {ca cb cm : Array Value} {w : World} {v : Value} (h : Tri A B M ca cb cm w) (hg : g < A ∧ g < B ∧ g < M) : Tri A B M ca cb cm (w.setCell ⟨g, o, none⟩ v) :=
  ⟨h.1.apart _ _ _ (by omega), h.2.1.apart _ _ _ (by omega), h.2.2.apart _ _ _ (by omega)⟩
theorem Tri.off3 {A B M g : Nat} {ca cb cm : Array Value} {w : World} {x y z : Value} (h : Tri A B M ca cb cm w) (hg : g < A ∧ g < B ∧ g < M) : Tri A B M ca cb cm (((w.setCell ⟨g, 0, none⟩ x).setCell ⟨g, 1, none⟩ y).setCell ⟨g, 2, none⟩ z) :=
  ((h.off hg).off hg).off hg
theorem Bx3.facts {G : Nat} {w : World} (h : Bx3 G w) : ((∀ o, w.cell? ⟨G, o, none⟩ = (#[.int .i64 0, .slice none 0 0, .slice none 0 0] : Array Value)[o]?) ∧ (∀ o, w.frozen? ⟨G, o, none⟩ = false) ∧ G < w.heap.size) ∧
    ((∀ o, w.cell? ⟨G + 1, o, none⟩ = (#[.int .i64 0, .slice none 0 0, .slice none 0 0] : Array Value)[o]?) ∧ (∀ o, w.frozen? ⟨G + 1, o, none⟩ = false) ∧ G + 1 < w.heap.size) ∧
    ((∀ o, w.cell? ⟨G + 2, o, none⟩ = (#[.slice none 0 0, .slice none 0 0] : Array Value)[o]?) ∧ (∀ o, w.frozen? ⟨G + 2, o, none⟩ = false) ∧ G + 2 < w.heap.size) :=
  ⟨⟨h.r2.cell, h.r2.free, h.r2.lt⟩, ⟨h.r3.cell, h.r3.free, h.r3.lt⟩, h.r4.cell, h.r4.free, h.r4.lt⟩
theorem NlA.off8 {w : World} {m m' g1 g2 g3 : Nat} {v x1 x2 x3 x4 x5 x6 x7 x8 : Value} (h : NlA m w v) (hg : g1 < m ∧ g2 < m ∧ g3 < m ∧ m' ≤ m) :
    NlA m' ((((((((w.setCell ⟨g1, 0, none⟩ x1).setCell ⟨g1, 1, none⟩ x2).setCell ⟨g1, 2, none⟩ x3).setCell ⟨g2, 0, none⟩ x4).setCell ⟨g2, 1, none⟩ x5).setCell ⟨g2, 2, none⟩ x6).setCell ⟨g3, 0, none⟩ x7).setCell ⟨g3, 1, none⟩ x8) v :=
  NlA.low (NlA.past (Within.off _) (NlA.past (Within.off _) (NlA.past (Within.off _) (NlA.past (Within.off _) (NlA.past (Within.off _) (NlA.past (Within.off _) (NlA.past (Within.off _) (NlA.past (Within.off _) h (by omega)) (by omega)) (by omega)) (by omega)) (by omega)) (by omega)) (by omega)) (by omega)) hg.2.2.2
theorem below_off8 {a w : World} {b g1 g2 g3 : Nat} {x1 x2 x3 x4 x5 x6 x7 x8 : Value} (h : Below b a w) (hg : b ≤ g1 ∧ b ≤ g2 ∧ b ≤ g3) :
    Below b a ((((((((w.setCell ⟨g1, 0, none⟩ x1).setCell ⟨g1, 1, none⟩ x2).setCell ⟨g1, 2, none⟩ x3).setCell ⟨g2, 0, none⟩ x4).setCell ⟨g2, 1, none⟩ x5).setCell ⟨g2, 2, none⟩ x6).setCell ⟨g3, 0, none⟩ x7).setCell ⟨g3, 1, none⟩ x8) :=
  (((((((h.setCell (show b ≤ g1 from hg.1) _).setCell (show b ≤ g1 from hg.1) _).setCell (show b ≤ g1 from hg.1) _).setCell (show b ≤ g2 from hg.2.1) _).setCell (show b ≤ g2 from hg.2.1) _).setCell (show b ≤ g2 from hg.2.1) _).setCell (show b ≤ g3 from hg.2.2) _).setCell (show b ≤ g3 from hg.2.2) _
theorem PrF.outs {W0 wx : World} {G A M B : Nat} {N NY : Int} {s1 s2 t1 t2 sd sp : Value} (h : PrF W0 G A M B N NY s1 s2 t1 t2 sd sp wx) :
    NlA (G + 3) wx.drew (.agg #[.int .i64 N, s1, s2]) ∧ NlA (G + 3) wx.drew (.agg #[.int .i64 NY, sd, sp]) ∧ Below W0.heap.size W0 wx.drew ∧ Tri A B M #[.int .i64 N, s1, s2] #[.int .i64 NY, sd, sp] #[t1, t2] wx.drew ∧ Bx3 G wx.drew :=
  ⟨h.na.drew, h.nb.drew, h.bl.drew, ⟨h.a, h.b, h.m⟩, h.bx.r2, h.bx.r3, h.bx.r4⟩
theorem PrE.fin {W0 w4 wx : World} {g n hi A M B L3 L4 G : Nat} {sv s1 s2 t1 t2 sd sp : Value} {N NY : Int} (h : PrE W0 w4 g n sv hi B NY sd sp L3 L4 wx) (hA : Blk w4 A #[.int .i64 N, s1, s2] 27) (hM : Blk w4 M #[t1, t2] 32) (hb : Bx3 G w4)
    (ha : NlA (G + 3) w4 (.agg #[.int .i64 N, s1, s2])) (hg : g < G) (hGA : G + 3 ≤ A) (hGM : G + 3 ≤ M) (hl : G + 3 ≤ w4.heap.size) (hN : Fits NY) : PrF W0 G A M B N NY s1 s2 t1 t2 sd sp wx := by
  obtain ⟨x, h1, h2⟩ := ha
  exact ⟨h.ex.blk hA (by omega), h.b, h.ex.blk hM (by omega), hb.exc h.ex (fun k h1 h2 => by omega), ⟨x, h1.excB h.ex (fun k h1 _ h2 => by omega), h2⟩, NlA.mk h.ds h.ps hl hN, h.src.2.1⟩
theorem PrF.set11 {W0 wx : World} {G A M B : Nat} {N NY : Int} {s1 s2 t1 t2 sd sp : Value} (h : PrF W0 G A M B N NY s1 s2 t1 t2 sd sp wx) (hA : G + 3 ≤ A) (hB : G + 3 ≤ B) (hne : A ≠ B) (hW : W0.heap.size ≤ G) (v : Int) (hv : Fits v) :
    PrF W0 G A M B v v s1 s2 t1 t2 sd sp ((wx.setCell ⟨A, 0, none⟩ (.int .i64 v)).setCell ⟨B, 0, none⟩ (.int .i64 v)) := by
  have k1 : Blk (wx.setCell ⟨A, 0, none⟩ (.int .i64 v)) A #[.int .i64 v, s1, s2] 27 := by simpa using h.a.set 0 (.int .i64 v)
  have k2 : Blk (wx.setCell ⟨A, 0, none⟩ (.int .i64 v)) B #[.int .i64 NY, sd, sp] 27 := h.b.apart _ _ _ (fun e => hne e.symm)
  have hMA : M ≠ A := fun e => by subst e; exact absurd (h.m.differ2 h.a) (by decide)
  have hMB : M ≠ B := fun e => by subst e; exact absurd (h.m.differ2 h.b) (by decide)
  exact ⟨k1.apart _ _ _ hne, by simpa using k2.set 0 (.int .i64 v), (h.m.apart _ _ _ hMA).apart _ _ _ hMB, (h.bx.apart hA).apart hB, ((h.na.nets hv).offN h.a).offN k2, ((h.nb.nets hv).offN h.a).offN k2, (h.bl.setCell (show W0.heap.size ≤ A by omega) _).setCell (show W0.heap.size ≤ B by omega) _⟩
theorem PrF.drew {W0 wx : World} {G A M B k : Nat} {N NY : Int} {s1 s2 t1 t2 sd sp : Value} (h : PrF W0 G A M B N NY s1 s2 t1 t2 sd sp wx) : PrF W0 G A M B N NY s1 s2 t1 t2 sd sp (wx.drewN k) :=
  ⟨h.a, h.b, h.m, ⟨h.bx.r2, h.bx.r3, h.bx.r4⟩, h.na.by (below_of_drewN wx k), h.nb.by (below_of_drewN wx k), below_on (below_of_drewN wx k) h.bl⟩
theorem ap_some {x : Nl} {z : List Int × List Int} (hx : nlB x = true) (h1 : permB z.1 x.nets = true) (h2 : permB z.2 (x.ds.length : Int) = true) (hok : ∀ p ∈ x.ps, p.ok) :
    apC x z = 0 ∧ (0 ≤ (apR x z).nets ∧ (apR x z).nets ≤ 24) ∧ (apR x z).ds.length ≤ 24 ∧ (apR x z).ps.length ≤ 8 ∧ (∀ d ∈ (apR x z).ds, 2 ≤ d.pins.length ∧ d.pins.length ≤ 3) ∧ ∀ p ∈ (apR x z).ps, p.ok := by
  obtain ⟨f1, _, _, _, _, _, _, _, f9, f10⟩ := inv_facts hx h1 h2 hok
  have e : apR x z = ⟨x.nets, ordD z.2 (x.ds.map (renD z.1)), x.ps.map (renP z.1)⟩ := by unfold apR; rw [if_pos hx, if_pos ⟨h1, h2⟩]
  have hy := ap_valid hx h1 h2
  rw [← e] at hy
  obtain ⟨a1, a2, a3, a4, _⟩ := nlB_facts hy
  exact ⟨f1, a1, a2, a3, fun d hd => ⟨(dvB_pins (a4 d hd)).2.1, (dvB_pins (a4 d hd)).1⟩, f9⟩
theorem PrE.ofX {W0 w4 w5 : World} {g n lo : Nat} {sv : Value} {a3 a4 : Option Addr} {c3 c4 : Nat} {y : Nl} (hO : OwnNlX w5 w4.heap.size w5.heap.size (.agg #[.int .i64 y.nets, .slice a3 y.ds.length c3, .slice a4 y.ps.length c4]) y)
    (hs : Src1 W0 g sv n w5) (hb : Below w4.heap.size w4 w5) (hd : ∀ d ∈ y.ds, 2 ≤ d.pins.length ∧ d.pins.length ≤ 3) (hp : ∀ p ∈ y.ps, p.ok) :
    PrE W0 w4 g n sv w5.heap.size w5.heap.size y.nets (.slice a3 y.ds.length c3) (.slice a4 y.ps.length c4) y.ds.length y.ps.length (w5.alloc (.cells #[.int .i64 y.nets, .slice a3 y.ds.length c3, .slice a4 y.ps.length c4] 27)) := by
  have hal : Below w5.heap.size w5 (w5.alloc (.cells #[.int .i64 y.nets, .slice a3 y.ds.length c3, .slice a4 y.ps.length c4] 27)) := (Below.refl _ w5).alloc (Nat.le_refl _) _
  obtain ⟨s1, s2, P, e, h1, h2, h3⟩ := hO
  have e' := congrArg Array.toList (show #[Value.int .i64 y.nets, .slice a3 y.ds.length c3, .slice a4 y.ps.length c4] = #[.int .i64 y.nets, s1, s2] by injection e)
  simp at e'
  obtain ⟨rfl, rfl⟩ := e'
  have h2' : OwnPs w5 w4.heap.size w5.heap.size (.slice a4 y.ps.length c4) y.ps := by
    rcases h2 with h | ⟨g, cap, cs, q1, q2, q3, q4, q5, q6⟩
    · exact .inl h
    · exact .inr ⟨g, cap, cs, q1, by omega, q3, q4, q5, q6⟩
  exact ⟨hs.by hal, (Exc.ofBelow hb).on (Exc.ofBelow hal), Blk.new _ rfl, ⟨y.ds, rfl, h1.ods.by hal, hd⟩, ⟨y.ps, rfl, h2'.by hal, hp⟩⟩
set_option maxRecDepth 100000 in
set_option maxHeartbeats 2000000 in
theorem specApply_any (x : Nl) (y : List Int × List Int) (v u : Value) (w : World) (h : NlV w v x) (hm : MaV w u y) (hok : ∀ p ∈ x.ps, p.ok) (hnn : Fits x.nets) (hl : y.1.length ≤ 1048576) (hl' : y.2.length ≤ 1048576) :
    Calls Tryz.prog 29 #[v, u] w fun e w' => ∃ v', e = .returned (.tuple #[v', .int .i64 (apC x y)]) ∧ OwnNlX w' w.heap.size w'.heap.size v' (apR x y) ∧ Below w.heap.size w w' := by
  have HV := Lib.hid (fun v w h => specNl_any x v w h hok hnn)
  have HN := Lib.hid h
  obtain ⟨s1, s2, rfl, hm1, hm2⟩ := hm
  obtain ⟨names, zs⟩ := y
  dsimp only at hm1 hm2 hl hl'
  have HS := Lib.hid hm1
  have HZ := Lib.hid hm2
  obtain ⟨rc, hrc⟩ : ∃ r, apC x (names, zs) = r := ⟨_, rfl⟩
  obtain ⟨rr, hrr⟩ : ∃ r, apR x (names, zs) = r := ⟨_, rfl⟩
  rw [hrc, hrr]
  unfold apC at hrc
  unfold apR at hrr
  obtain ⟨a, c, a', c', rfl⟩ := h.sized
  obtain ⟨am, cm, rfl⟩ := hm1.len
  obtain ⟨an, cn, rfl⟩ := hm2.len
  by_cases hb : nlB x = true
  · obtain ⟨⟨hn0, hn1⟩, hd24, hp8, hdv, _⟩ := nlB_facts hb
    have hnet := nl_netsX hb
    obtain ⟨nets, ds, ps⟩ := x
    dsimp only at *
    obtain ⟨m, rfl⟩ : ∃ m : Nat, nets = m := ⟨nets.toNat, by omega⟩
    rw [hb] at HV
    rw [if_pos hb] at hrc hrr
    have HO1 := Lib.hid (fun w h => specPerm_any (.slice am names.length cm) names m w h hl (by omega))
    have HO2 := Lib.hid (fun w h => specPerm_any (.slice an zs.length cn) zs ds.length w h hl' (by omega))
    obtain ⟨p1, hp1⟩ : ∃ p, permB names (m : Int) = p := ⟨_, rfl⟩
    obtain ⟨p2, hp2⟩ : ∃ p, permB zs (ds.length : Int) = p := ⟨_, rfl⟩
    rw [hp1] at HO1 hrc hrr
    rw [hp2] at HO2 hrc hrr
    cases p1 with
    | false =>
      simp only [Bool.false_eq_true, false_and, if_false] at hrc hrr
      subst hrc hrr
      clear h hm1 hm2 hok hnn hp1 hp2 hb hnet hdv HO2
      go_enter Tryz.func29, Tryz.ntmps29
      go_wp2_with fail
      refine (HV.out _ _ (HN.out.by blwT)).mono ?_
      rintro e w1 ⟨rfl, hb1⟩
      have kA : Blk w1 w.heap.size #[.int .i64 (m : Int), .slice a ds.length c, .slice a' ps.length c'] 27 := blkT
      have kM : Blk w1 (w.heap.size + 1) #[.slice am names.length cm, .slice an zs.length cn] 32 := blkT
      have kR : Blk w1 (w.heap.size + 1 + 1) #[.int .i64 0, .slice none 0 0, .slice none 0 0] 27 := blkT
      have hW : Below w.heap.size w w1 := blwT
      have qA := kA.cell
      have qM := kM.cell
      have lA := kA.lt
      have lM := kM.lt
      clear hb1
      go_wp2_with fail
      refine (HO1.out _ (HS.out.by hW)).mono ?_
      rintro e w2 ⟨rfl, hb2⟩
      replace kA := Blk.by hb2 kA
      replace kM := Blk.by hb2 kM
      replace kR := Blk.by hb2 kR
      replace hW := below_on hb2 hW
      clear hb2 qA qM lA lM
      have qA := kA.cell
      have qM := kM.cell
      have lA := kA.lt
      have lM := kM.lt
      have qR := kR.cell
      have fR := kR.free
      have lR := kR.lt
      go_wp2
      exact bodyPost_ret (v := .tuple #[.agg #[.int .i64 0, .slice none 0 0, .slice none 0 0], .int .i64 2]) (by simp [results, Tryz.results29, go_sem, *]) rfl ⟨_, rfl, nlZeroX _ _ _ (by simp; omega), blwT⟩
    | true =>
      cases p2 with
      | false =>
        simp only [Bool.false_eq_true, and_false, if_false] at hrc hrr
        subst hrc hrr
        clear h hm1 hm2 hok hnn hp1 hp2 hb hnet hdv
        go_enter Tryz.func29, Tryz.ntmps29
        go_wp2_with fail
        refine (HV.out _ _ (HN.out.by blwT)).mono ?_
        rintro e w1 ⟨rfl, hb1⟩
        have kA : Blk w1 w.heap.size #[.int .i64 (m : Int), .slice a ds.length c, .slice a' ps.length c'] 27 := blkT
        have kM : Blk w1 (w.heap.size + 1) #[.slice am names.length cm, .slice an zs.length cn] 32 := blkT
        have kR : Blk w1 (w.heap.size + 1 + 1) #[.int .i64 0, .slice none 0 0, .slice none 0 0] 27 := blkT
        have hW : Below w.heap.size w w1 := blwT
        have qA := kA.cell
        have qM := kM.cell
        have lA := kA.lt
        have lM := kM.lt
        clear hb1
        go_wp2_with fail
        refine (HO1.out _ (HS.out.by hW)).mono ?_
        rintro e w2 ⟨rfl, hb2⟩
        replace kA := Blk.by hb2 kA
        replace kM := Blk.by hb2 kM
        replace kR := Blk.by hb2 kR
        replace hW := below_on hb2 hW
        clear hb2 qA qM lA lM
        have qA := kA.cell
        have qM := kM.cell
        have lA := kA.lt
        have lM := kM.lt
        go_wp2_with fail
        refine (HO2.out _ (HZ.out.by hW)).mono ?_
        rintro e w3 ⟨rfl, hb3⟩
        replace kA := Blk.by hb3 kA
        replace kM := Blk.by hb3 kM
        replace kR := Blk.by hb3 kR
        replace hW := below_on hb3 hW
        clear hb3 qA qM lA lM
        have qA := kA.cell
        have qM := kM.cell
        have lA := kA.lt
        have lM := kM.lt
        have qR := kR.cell
        have fR := kR.free
        have lR := kR.lt
        go_wp2
        exact bodyPost_ret (v := .tuple #[.agg #[.int .i64 0, .slice none 0 0, .slice none 0 0], .int .i64 2]) (by simp [results, Tryz.results29, go_sem, *]) rfl ⟨_, rfl, nlZeroX _ _ _ (by simp; omega), blwT⟩
      | true =>
        simp only [and_self, if_true] at hrc hrr
        have hlen : (names.length : Int) = m := (permB_iff.1 hp1).1
        have hzl : zs.length = ds.length := by have := (permB_iff.1 hp2).1; omega
        have HZL := Lib.hid hzl
        have HR := Lib.hid (fun v w h h' => specRen_any ⟨(m : Int), ds, ps⟩ names (.slice am names.length cm) (m : Int) v w h h' (by dsimp only; omega) (by dsimp only; omega) (fun d hd => by have q := dvB_pins (hdv d hd); exact ⟨q.1, fun e => by rw [e] at q; simp at q, fun z hz => by have := q.2.2 z hz; omega⟩) (fun p hp => by have := hnet p hp; omega))
        have HSH := Lib.hid (show ∀ d ∈ ds, Shp d from fun d hd => shp_of (hdv d hd))
        have HP2 := Lib.hid hp2
        subst hrc
        subst hrr
        obtain ⟨RD, hRD⟩ : ∃ r, ds.map (renD names) = r := ⟨_, rfl⟩
        obtain ⟨RP, hRP⟩ : ∃ r, ps.map (renP names) = r := ⟨_, rfl⟩
        rw [hRD, hRP]
        have HRD := Lib.hid hRD
        have HRP := Lib.hid hRP
        have HI := Lib.hid (fun w h => specInv_any (.slice an zs.length cn) zs w h hl' (by rw [hzl]; exact hp2))
        clear h hm1 hm2 hok hnn hp1 hb hnet hdv hlen hp2 hzl hRD hRP
        go_enter Tryz.func29, Tryz.ntmps29
        go_wp2_with fail
        refine (HV.out _ _ (HN.out.by blwT)).mono ?_
        rintro e w1 ⟨rfl, hb1⟩
        have kA : Blk w1 w.heap.size #[.int .i64 (m : Int), .slice a ds.length c, .slice a' ps.length c'] 27 := blkT
        have kM : Blk w1 (w.heap.size + 1) #[.slice am names.length cm, .slice an zs.length cn] 32 := blkT
        have kR : Blk w1 (w.heap.size + 1 + 1) #[.int .i64 0, .slice none 0 0, .slice none 0 0] 27 := blkT
        have hW : Below w.heap.size w w1 := blwT
        have qA := kA.cell
        have qM := kM.cell
        have lA := kA.lt
        have lM := kM.lt
        clear hb1
        go_wp2_with fail
        refine (HO1.out _ (HS.out.by hW)).mono ?_
        rintro e w2 ⟨rfl, hb2⟩
        replace kA := Blk.by hb2 kA
        replace kM := Blk.by hb2 kM
        replace kR := Blk.by hb2 kR
        replace hW := below_on hb2 hW
        clear hb2 qA qM lA lM
        have qA := kA.cell
        have qM := kM.cell
        have lA := kA.lt
        have lM := kM.lt
        go_wp2_with fail
        refine (HO2.out _ (HZ.out.by hW)).mono ?_
        rintro e w3 ⟨rfl, hb3⟩
        replace kA := Blk.by hb3 kA
        replace kM := Blk.by hb3 kM
        replace kR := Blk.by hb3 kR
        replace hW := below_on hb3 hW
        clear hb3 qA qM lA lM
        have qA := kA.cell
        have qM := kM.cell
        have lA := kA.lt
        have lM := kM.lt
        go_wp2_with fail
        refine (HR.out _ _ (HN.out.by hW) (HS.out.by hW)).mono ?_
        rintro e w4 ⟨v4, rfl, hO, hb4⟩
        have hlo := kR.lt
        have hs43 := hb4.size
        replace kA := Blk.by hb4 kA
        replace kM := Blk.by hb4 kM
        replace kR := Blk.by hb4 kR
        replace hW := below_on hb4 hW
        clear hb4 qA qM lA lM
        have qA := kA.cell
        have qM := kM.cell
        have lA := kA.lt
        have lM := kM.lt
        obtain ⟨s1, s2, lo1, hi1, lo2, hi2, rfl, hOD, hOP, hi1', hi2', hap⟩ := hO
        simp only [renS, HRD.out, HRP.out] at hOD hOP
        obtain ⟨f, pv, hAT, hinj⟩ := hOD.at
        obtain ⟨a1, c1, rfl⟩ := hOD.sl.sized
        obtain ⟨a2, c2, rfl⟩ := hOP.sl.sized
        obtain ⟨P, hPP, hPr⟩ := hOP.pick w.heap.size
        have hrl : RD.length = ds.length := by rw [← HRD.out, List.length_map]
        have HRL := Lib.hid hrl
        have HAT := Lib.hid hAT
        have HPP := Lib.hid hPP
        have HINJ := Lib.hid hinj
        have HNE := Lib.hid (show ∀ (i : Nat) x, RD[i]? = some x → f i ≠ P ∧ lo1 ≤ f i ∧ f i < hi1 from fun i x hx => by have := (hAT i x hx).2.2; omega)
        have HP2R := Lib.hid (show permB zs (RD.length : Int) = true by rw [hrl]; exact HP2.out)
        have HZR := Lib.hid (show zs.length = RD.length by rw [hrl]; exact HZL.out)
        have hk4 := kR.lt
        have hd24' : RD.length ≤ 24 := by omega
        obtain ⟨X, hX⟩ : ∃ X, w4.heap.size = X := ⟨_, rfl⟩
        rw [hX] at hi1' hi2' hk4
        have hPX : P < X := by omega
        have hPR : P ≠ w.heap.size + 1 + 1 := by omega
        have hPw : w.heap.size ≤ P := by omega
        have h3X : w3.heap.size ≤ X := by omega
        have HX := Lib.hid hX
        clear hOD hOP hAT hPP hinj hX hrl
        go_wp2_with fail
        refine (HI.out _ (HZ.out.by blwT)).mono ?_
        rintro e w5 ⟨v5, rfl, hOI, hb5⟩
        rw [HX.out]
        have hal : Below w4.heap.size w4 (w4.alloc (.cells #[.int .i64 (m : Int), .slice a1 RD.length c1, .slice a2 RP.length c2] 27)) := (Below.refl _ w4).alloc (Nat.le_refl _) _
        have kX : Blk w5 X #[.int .i64 (m : Int), .slice a1 RD.length c1, .slice a2 RP.length c2] 27 := Blk.by hb5 (Blk.new _ HX.out.symm)
        replace kR := Blk.by hb5 (Blk.by hal kR)
        replace HAT := Lib.hid ((HAT.out.by hal).by hb5)
        replace HPP := Lib.hid ((HPP.out.by hal).by hb5)
        replace hW := below_on hb5 (hW.trans (hal.mono (by have := HX.out; omega)))
        obtain ⟨ao, co, rfl⟩ := hOI.sl.len
        have hsz5 := hb5.size
        simp only [World.size_alloc] at hsz5
        simp only [World.size_alloc, HX.out] at hOI
        rw [length_invS] at hOI ⊢
        have HOI := Lib.hid hOI
        clear hOI hb5 hal kA kM qA qM lA lM HN HS HZ HI HR HV HO1 HO2 HX
        have qX := kX.cell
        obtain ⟨Y, hY⟩ : ∃ Y, w5.heap.size = Y := ⟨_, rfl⟩
        rw [hY] at HOI
        have hXY : X < Y := by have := kX.lt; omega
        have hRY : w.heap.size + 1 + 1 < X := hk4
        go_wp2
        obtain ⟨wA, hwA⟩ : ∃ wA, wA = w5.alloc (.cells #[.int .i64 (m : Int), .slice none 0 0, .slice a2 RP.length c2] 27) := ⟨_, rfl⟩
        have hal : Below w5.heap.size w5 wA := by rw [hwA]; exact (Below.refl _ w5).alloc (Nat.le_refl _) _
        have kY : Blk wA Y #[.int .i64 (m : Int), .slice none 0 0, .slice a2 RP.length c2] 27 := by rw [hwA]; exact Blk.new _ hY.symm
        have hsA : wA.heap.size = Y + 1 := by rw [hwA]; simp [hY]
        have kXA := Blk.by hal kX
        have kRA := Blk.by hal kR
        have HATA := Lib.hid (HAT.out.by hal)
        have HPPA := Lib.hid (HPP.out.by hal)
        have HOIA := Lib.hid (OwnR.by hal HOI.out)
        have hWA := below_on hal hW
        have hBn := BldR.nil wA (Y + 1)
        rw [hsA] at hBn
        rw [← hwA]; (try rw [hY])
        clear hwA hal kX kR HAT HPP HOI hW qX hsA hY
        have HTD := Lib.hid (fun k d h => take_snoc_of (ordD zs RD) k d h)
        have HTI := Lib.hid (fun k d h => take_snoc_of (invS zs) k d h)
        go_loopw [9] (fun i wr => ∃ (k hi : Nat) (vv : Value), k ≤ zs.length ∧ i = .int .i64 k ∧ Hid (BldR wr (Y + 1) hi vv ((ordD zs RD).take k) (((invS zs).take k).map fun z => pv z.toNat)) ∧ Y + 1 ≤ hi ∧ Blk wr X #[.int .i64 (m : Int), .slice a1 RD.length c1, .slice a2 RP.length c2] 27 ∧ Blk wr Y #[.int .i64 (m : Int), vv, .slice a2 RP.length c2] 27 ∧ Blk wr (w.heap.size + 1 + 1) #[.int .i64 0, .slice none 0 0, .slice none 0 0] 27 ∧ Hid (DsAt wr lo1 hi1 (.slice a1 RD.length c1) RD f pv) ∧ Hid (OwnPs wr P (P + 1) (.slice a2 RP.length c2) RP) ∧ Hid (OwnR wr (X + 1) Y (.slice ao zs.length co) (invS zs)) ∧ Below w.heap.size w wr) (fun i _ => zs.length - (intOf i).toNat)
        case atStart => exact ⟨0, Y + 1, .slice none 0 0, Nat.zero_le _, rfl, Lib.hid hBn, Nat.le_refl _, kXA, kY, kRA, HATA, HPPA, HOIA, hWA⟩
        case round =>
          clear kXA kY kRA HATA HPPA HOIA hWA hBn
          obtain ⟨k, hi, vv, hk, rfl, HB, hhi, kX, kY, kR, HAT, HPP, HOI, hb⟩ := hrel
          have hml : ((ordD zs RD).take k).length = k := by rw [List.length_take, length_ordD]; omega
          obtain ⟨av, cv, rfl⟩ := HB.out.sized
          rw [hml] at HB kY
          have HML := Lib.hid hml
          have hhs := HB.out.1
          clear hml
          by_cases hlt : k < zs.length
          · obtain ⟨d, hd⟩ : ∃ d, (ordD zs RD)[k]? = some d := ⟨(ordD zs RD)[k]'(by rw [length_ordD]; exact hlt), List.getElem?_eq_getElem _⟩
            obtain ⟨j, e1, e2, e3⟩ := ordD_inv HP2R.out k d hd
            obtain ⟨⟨g, cap, cs, hsv, hg, kG, d0, d1, d2, d3⟩, hOR, hf⟩ := HAT.out j d e3
            obtain ⟨rfl, rfl⟩ : a1 = some ⟨g, 0, none⟩ ∧ c1 = cap := by simpa using hsv
            rcases HOI.out with ⟨_, _, _, e4⟩ | ⟨ob, ocap, ocs, hoe, ho1, ho2, _, _, kO, hoc⟩
            · rw [e4] at e1; simp at e1
            obtain ⟨rfl, rfl⟩ : ao = some ⟨ob, 0, none⟩ ∧ co = ocap := by simpa [length_invS] using hoe
            have e5 : wr.cell? ⟨ob, k, none⟩ = some (.int .i64 (j : Int)) := (kO.cell _).trans (hoc k j e1)
            have hone := hOR.one
            have hjl : j < RD.length := (List.getElem?_eq_some_iff.1 e3).1
            have i1 : (0 : Int) ≤ (k : Int) := by omega
            have i2 : (k : Int) < (zs.length : Int) := by omega
            have i3 : (0 : Int) ≤ (j : Int) := by omega
            have i4 : (j : Int) < (RD.length : Int) := by omega
            have HLM := Lib.hid (show ((ordD zs RD).take k).length ≤ 1000 by have := HZR.out; rw [HML.out]; omega)
            have HD := Lib.hid hd
            have HE1 := Lib.hid e1
            have HONE := Lib.hid hone
            have g0 : wr.cell? ⟨g, j * 4, none⟩ = some (.int .i64 d.kind) := (kG.cell _).trans d0
            have g1 : wr.cell? ⟨g, j * 4 + 1, none⟩ = some (pv j) := (kG.cell _).trans d1
            have g2 : wr.cell? ⟨g, j * 4 + 2, none⟩ = some (.int .i64 d.wd) := (kG.cell _).trans d2
            have g3 : wr.cell? ⟨g, j * 4 + 3, none⟩ = some (.int .i64 d.len) := (kG.cell _).trans d3
            have cY1 : wr.cell? ⟨Y, 1, none⟩ = some (.slice av k cv) := kY.cell 1
            have cX1 : wr.cell? ⟨X, 1, none⟩ = some (.slice (some ⟨g, 0, none⟩) RD.length c1) := kX.cell 1
            have lY := kY.lt
            have lX := kX.lt
            have lR := kR.lt
            have lG := kG.lt
            have lO := kO.lt
            clear hd e1 hone hoc e3 hsv hoe hOR d0 d1 d2 d3
            go_wp2_with fail
            refine wp_region_any (by kernel_rfl) (wpAny_of_E (S := fun w' => w'.cell? ⟨Y, 1, none⟩ = some (.slice av k cv) ∧ w'.cell? ⟨X, 1, none⟩ = some (.slice (some ⟨g, 0, none⟩) RD.length c1) ∧ w'.cell? ⟨ob, k, none⟩ = some (.int .i64 (j : Int)) ∧ w'.cell? ⟨g, j * 4, none⟩ = some (.int .i64 d.kind) ∧ w'.cell? ⟨g, j * 4 + 1, none⟩ = some (pv j) ∧ w'.cell? ⟨g, j * 4 + 2, none⟩ = some (.int .i64 d.wd) ∧ w'.cell? ⟨g, j * 4 + 3, none⟩ = some (.int .i64 d.len)) (l := 13) _ _ _ _ ?_)
            have hS : (fun w' : World => w'.cell? ⟨Y, 1, none⟩ = some (.slice av k cv) ∧ w'.cell? ⟨X, 1, none⟩ = some (.slice (some ⟨g, 0, none⟩) RD.length c1) ∧ w'.cell? ⟨ob, k, none⟩ = some (.int .i64 (j : Int)) ∧ w'.cell? ⟨g, j * 4, none⟩ = some (.int .i64 d.kind) ∧ w'.cell? ⟨g, j * 4 + 1, none⟩ = some (pv j) ∧ w'.cell? ⟨g, j * 4 + 2, none⟩ = some (.int .i64 d.wd) ∧ w'.cell? ⟨g, j * 4 + 3, none⟩ = some (.int .i64 d.len)) { wr with drawn := wr.drawn + 1 } := ⟨cY1, cX1, e5, g0, g1, g2, g3⟩
            change wpAnyE _ _ _ _ _ _ _ _ _ wr.drew
            refine wpAnyE_take (i := 0) (v := ?_) rfl (by kernel_rfl) (fun _ _ _ h => h) (Or.inl ⟨by rfl, ?_⟩) hS ?_
            rotate_left
            · intro w hSw; (try dsimp only at hSw); go_simp; (try with_reducible rfl)
            try simp only [Act.put, List.setIfInBounds_toArray, List.set_cons_zero, List.set_cons_succ]
            refine wpAnyE_take (i := 1) (v := ?_) rfl (by kernel_rfl) (fun _ _ _ h => h) (Or.inl ⟨by rfl, ?_⟩) hS ?_
            rotate_left
            · intro w hSw; (try dsimp only at hSw); go_simp; (try with_reducible rfl)
            try simp only [Act.put, List.setIfInBounds_toArray, List.set_cons_zero, List.set_cons_succ]
            refine wpAnyE_take (i := 2) (v := ?_) rfl (by kernel_rfl) (fun _ _ _ h => h) (Or.inl ⟨by rfl, ?_⟩) hS ?_
            rotate_left
            · intro w hSw; (try dsimp only at hSw); go_simp; (try with_reducible rfl)
            try simp only [Act.put, List.setIfInBounds_toArray, List.set_cons_zero, List.set_cons_succ]
            refine wpAnyE_take (i := 3) (v := ?_) rfl (by kernel_rfl) (fun _ _ _ h => h) (Or.inl ⟨by rfl, ?_⟩) hS ?_
            rotate_left
            · intro w hSw; (try dsimp only at hSw); go_simp; (try with_reducible rfl)
            try simp only [Act.put, List.setIfInBounds_toArray, List.set_cons_zero, List.set_cons_succ]
            refine wpAnyE_take (i := 4) (v := ?_) rfl (by kernel_rfl) (fun _ _ _ h => h) (Or.inl ⟨by rfl, ?_⟩) hS ?_
            rotate_left
            · intro w hSw; (try dsimp only at hSw); go_simp; (try with_reducible rfl)
            try simp only [Act.put, List.setIfInBounds_toArray, List.set_cons_zero, List.set_cons_succ]
            refine wpAnyE_take (i := 5) (v := ?_) rfl (by kernel_rfl) (fun _ _ _ h => h) (Or.inl ⟨by rfl, ?_⟩) hS ?_
            rotate_left
            · intro w hSw; (try dsimp only at hSw); go_simp; (try with_reducible rfl)
            try simp only [Act.put, List.setIfInBounds_toArray, List.set_cons_zero, List.set_cons_succ]
            refine wpAnyE_take (i := 6) (v := ?_) rfl (by kernel_rfl) (fun _ _ _ h => h) (Or.inl ⟨by rfl, ?_⟩) hS ?_
            rotate_left
            · intro w hSw; (try dsimp only at hSw); go_simp; (try with_reducible rfl)
            try simp only [Act.put, List.setIfInBounds_toArray, List.set_cons_zero, List.set_cons_succ]
            refine wpAnyE_take (i := 7) (v := ?_) rfl (by kernel_rfl) (fun _ _ _ h => h) (Or.inl ⟨by rfl, ?_⟩) hS ?_
            rotate_left
            · intro w hSw; (try dsimp only at hSw); go_simp; (try with_reducible rfl)
            try simp only [Act.put, List.setIfInBounds_toArray, List.set_cons_zero, List.set_cons_succ]
            refine wpAnyE_take (i := 8) (v := ?_) rfl (by kernel_rfl) (fun _ _ _ h => h) (Or.inl ⟨by rfl, ?_⟩) hS ?_
            rotate_left
            · intro w hSw; (try dsimp only at hSw); go_simp; (try with_reducible rfl)
            try simp only [Act.put, List.setIfInBounds_toArray, List.set_cons_zero, List.set_cons_succ]
            refine wpAnyE_take (i := 9) (v := ?_) rfl (by kernel_rfl) (fun _ _ _ h => h) (Or.inl ⟨by rfl, ?_⟩) hS ?_
            rotate_left
            · intro w hSw; (try dsimp only at hSw); go_simp; (try with_reducible rfl)
            try simp only [Act.put, List.setIfInBounds_toArray, List.set_cons_zero, List.set_cons_succ]
            refine wpAnyE_one (k := 10) (by kernel_rfl) rfl (fun K hK => ?_)
            go_simp
            refine hK.out _ _ (fun _ => ?_) ?_
            · have hal : Below wr.heap.size wr (wr.drew.alloc (.cells #[.int .i64 d.kind, pv j, .int .i64 d.wd, .int .i64 d.len] 54)) := (Below.refl _ wr).drew.alloc (Nat.le_refl _) _
              exact ⟨cell_by' hal cY1, cell_by' hal cX1, cell_by' hal e5, cell_by' hal g0, cell_by' hal g1, cell_by' hal g2, cell_by' hal g3⟩
            try simp only [Act.put, List.setIfInBounds_toArray, List.set_cons_zero, List.set_cons_succ]
            refine wpAnyE_one (k := 11) (by kernel_rfl) rfl (fun K hK => ?_)
            have hal : Below wr.heap.size wr (wr.drew.alloc (.cells #[.int .i64 d.kind, pv j, .int .i64 d.wd, .int .i64 d.len] 54)) := (Below.refl _ wr).drew.alloc (Nat.le_refl _) _
            refine step_pushRB (by rfl) _ _ (by rfl) (Y + 1) hi (.slice av k cv) ((ordD zs RD).take k) (((invS zs).take k).map fun z => pv z.toNat) (by rfl) (HB.out.by hal) wr.heap.size d (pv j) (by rfl) (Blk.new _ rfl) HONE.out hhi HLM.out ?_
            intro a' c' w3 hB3 hw3
            rw [HML.out] at hB3 ⊢
            have HB3 := Lib.hid hB3
            have kX3 := hw3.blk (Blk.by hal kX) (by omega)
            have kY3 := hw3.blk (Blk.by hal kY) (by omega)
            have kR3 := hw3.blk (Blk.by hal kR) (by omega)
            have kG3 := hw3.blk (Blk.by hal kG) (by omega)
            have hb3 := hw3.below (below_on hal hb) (by omega)
            have hsz3 := hw3.size
            simp only [World.size_alloc, World.size_drew] at hsz3
            have HAT3 := Lib.hid (DsAt.past hw3 (HAT.out.by hal) (by omega))
            have HPP3 := Lib.hid (OwnPs.past hw3 (HPP.out.by hal) (by omega))
            have HOI3 := Lib.hid (OwnR.past hw3 (OwnR.by hal HOI.out) (by omega))
            have kO3 := hw3.blk (Blk.by hal kO) (by omega)
            have cY3 : w3.cell? ⟨Y, 1, none⟩ = some (.slice av k cv) := kY3.cell 1
            have fY3 : w3.frozen? ⟨Y, 1, none⟩ = false := kY3.free 1
            have lY3 := kY3.lt
            have hS3 : w3.cell? ⟨Y, 1, none⟩ = some (.slice av k cv) ∧ w3.cell? ⟨X, 1, none⟩ = some (.slice (some ⟨g, 0, none⟩) RD.length c1) ∧ w3.cell? ⟨ob, k, none⟩ = some (.int .i64 (j : Int)) ∧ w3.cell? ⟨g, j * 4, none⟩ = some (.int .i64 d.kind) ∧ w3.cell? ⟨g, j * 4 + 1, none⟩ = some (pv j) ∧ w3.cell? ⟨g, j * 4 + 2, none⟩ = some (.int .i64 d.wd) ∧ w3.cell? ⟨g, j * 4 + 3, none⟩ = some (.int .i64 d.len) := ⟨cY3, kX3.cell 1, (kO3.cell _).trans ((kO.cell _).symm.trans e5), (kG3.cell _).trans ((kG.cell _).symm.trans g0), (kG3.cell _).trans ((kG.cell _).symm.trans g1), (kG3.cell _).trans ((kG.cell _).symm.trans g2), (kG3.cell _).trans ((kG.cell _).symm.trans g3)⟩
            clear hB3
            refine hK.out _ _ (fun _ => hS3) ?_
            try simp only [Act.put, List.setIfInBounds_toArray, List.set_cons_zero, List.set_cons_succ]
            refine wpAnyE_one (k := 12) (by kernel_rfl) rfl (fun K hK => ?_)
            go_simp
            refine hK.out _ _ (fun _ => hS3) ?_
            try simp only [Act.put, List.setIfInBounds_toArray, List.set_cons_zero, List.set_cons_succ]
            refine wpAnyE_one (k := 13) (by kernel_rfl) rfl (fun K hK => ?_)
            go_simp
            refine hK.out _ _ (fun h => absurd rfl h) ?_
            refine wpAnyE_done (by kernel_rfl) ?_ _
            clear hS hS3
            go_wp2_with fail
            have hW4 : Within Y (Y + 1) w3 (w3.setCell ⟨Y, 1, none⟩ (.slice a' (k + 1) c')) := Within.off _
            refine ⟨⟨k + 1, w3.heap.size, .slice a' (k + 1) c', by omega, by go_num, Lib.hid ?_, by omega, kX3.apart _ 1 _ (by omega), kY3.set 1 _, kR3.apart _ 1 _ (by omega), Lib.hid (DsAt.past hW4 HAT3.out (by omega)), Lib.hid (OwnPs.past hW4 HPP3.out (by omega)), Lib.hid (OwnR.past hW4 HOI3.out (by omega)), hb3.setCell (by simp; omega) _⟩, by simp [intOf]; omega⟩
            rw [HTD.out k d HD.out, HTI.out k j HE1.out, List.map_append]
            exact BldR.past hW4 HB3.out (by omega)
          · obtain rfl : k = zs.length := by omega
            have hBD := HB.out
            rw [List.take_of_length_le (by rw [length_ordD]; exact Nat.le_refl _), List.take_of_length_le (by rw [length_invS]; exact Nat.le_refl _)] at hBD
            have hXD : OwnDsX wr w3.heap.size hi P (.slice av zs.length cv) (ordD zs RD) := by
              refine BldR.ownX (f := fun i => f ((invS zs).getD i 0).toNat) hBD (by omega) (Nat.le_refl _) (.inl (by omega)) (fun i x pv' hx hp' => ?_) (fun i i' hi1 hi2 hne' => ?_)
              · obtain ⟨j, q1, q2, q3⟩ := ordD_inv HP2R.out i x hx
                have hin : (invS zs).getD i 0 = (j : Int) := by simp [List.getD_eq_getElem?_getD, q1]
                have hpv : pv' = pv j := by simpa [q1] using hp'.symm
                obtain ⟨_, hOR, hf⟩ := HAT.out j x q3
                have hn := HNE.out j x q3
                (try dsimp only)
                rw [hin, hpv, Int.toNat_natCast]
                exact ⟨hOR, by omega, by omega, hn.1⟩
              · rw [length_ordD] at hi1 hi2
                obtain ⟨x1, hx1⟩ : ∃ x1, (ordD zs RD)[i]? = some x1 := ⟨(ordD zs RD)[i]'(by rw [length_ordD]; exact hi1), List.getElem?_eq_getElem _⟩
                obtain ⟨x2, hx2⟩ : ∃ x2, (ordD zs RD)[i']? = some x2 := ⟨(ordD zs RD)[i']'(by rw [length_ordD]; exact hi2), List.getElem?_eq_getElem _⟩
                obtain ⟨j1, q1, q2, q3⟩ := ordD_inv HP2R.out i x1 hx1
                obtain ⟨j2, r1, r2, r3⟩ := ordD_inv HP2R.out i' x2 hx2
                have e1 : (invS zs).getD i 0 = (j1 : Int) := by simp [List.getD_eq_getElem?_getD, q1]
                have e2 : (invS zs).getD i' 0 = (j2 : Int) := by simp [List.getD_eq_getElem?_getD, r1]
                (try dsimp only)
                rw [e1, e2, Int.toNat_natCast, Int.toNat_natCast]
                refine HINJ.out j1 j2 (List.getElem?_eq_some_iff.1 q3).1 (List.getElem?_eq_some_iff.1 r3).1 (fun e => hne' ?_)
                subst e
                exact invS_inj HP2R.out i i' _ q1 r1
            have HXD := Lib.hid hXD
            have qY := kY.cell
            have lY := kY.lt
            have qR := kR.cell
            have fR := kR.free
            have lR := kR.lt
            clear hBD HB hXD
            go_wp2
            refine bodyPost_ret (v := .tuple #[.agg #[.int .i64 (m : Int), .slice av zs.length cv, .slice a2 RP.length c2], .int .i64 0]) (by simp [results, Tryz.results29, go_sem, *]) rfl ⟨_, rfl, ⟨_, _, P, rfl, ?_, ?_, ⟨by omega, by simp; omega⟩⟩, blwT⟩
            · refine OwnDsX.wide (lo := w3.heap.size) (hi := hi) ?_ (by omega) (by simp; omega)
              exact ((HXD.out.past (Within.off _) (by omega)).past (Within.off _) (by omega)).past (Within.off _) (by omega)
            · exact ((HPP.out.past (Within.off _) (by omega)).past (Within.off _) (by omega)).past (Within.off _) (by omega)
  · rw [if_neg hb] at hrc hrr
    have hbf : nlB x = false := by simpa using hb
    rw [hbf] at HV
    subst hrc hrr
    clear h hm1 hm2 hok hnn hb hbf
    go_enter Tryz.func29, Tryz.ntmps29
    go_wp2_with fail
    refine (HV.out _ _ (HN.out.by blwT)).mono ?_
    rintro e w1 ⟨rfl, hb1⟩
    have kR : Blk w1 (w.heap.size + 1 + 1) #[.int .i64 0, .slice none 0 0, .slice none 0 0] 27 := blkT
    have hW : Below w.heap.size w w1 := blwT
    have qR := kR.cell
    have fR := kR.free
    have lR := kR.lt
    clear hb1
    go_wp2
    exact bodyPost_ret (v := .tuple #[.agg #[.int .i64 0, .slice none 0 0, .slice none 0 0], .int .i64 1]) (by simp [results, Tryz.results29, go_sem, *]) rfl ⟨_, rfl, nlZeroX _ _ _ (by simp; omega), blwT⟩
/- ApplyMatching, the program's. -/
end Go.Proofs.YtehmiekendkjmaaGreat
