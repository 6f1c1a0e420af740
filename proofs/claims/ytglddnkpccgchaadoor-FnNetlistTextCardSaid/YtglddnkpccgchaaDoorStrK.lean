/- The program's join at the three kinds of lines of a netlist's text; a slice of int64 cloned into memory that may grow. -/
import Derived.Test.YtglddnkpccgchaaDoorStrJ
import Derived.Test.YtglddnkpccgchaaDoorOrdB
namespace Go.Proofs.YtglddnkpccgchaaDoor
open Go.RowKit
set_option linter.unusedVariables false
set_option linter.unusedSimpArgs false

theorem Blk.sameT {w : World} {g : Nat} {c1 c2 : Array Value} {T1 T2 : TypeId} (h1 : Blk w g c1 T1) (h2 : Blk w g c2 T2) : T1 = T2 := by
  unfold Blk at h1 h2
  rw [h1] at h2
  simp at h2
  exact h2.2
theorem line0_any (B W N : Nat) (z : Int) (w : World) (hT : Tab10 B w) (hw : Blk w W #[.string ⟨#[110, 101, 116, 115]⟩] 9) (hn : Blk w N #[.int .i64 z] 2) (hB : B ≤ W) (hz : 0 ≤ z ∧ z ≤ 24) :
    Calls Tryd.prog 26 #[.slice (some ⟨W, 0, none⟩) 1 1, .slice (some ⟨N, 0, none⟩) 1 1] w fun e w' => e = .returned (.string (ln0 z)) ∧ Within W (W + 1) w w' := by
  have hne : W ≠ N := fun e => by subst e; exact absurd (hw.sameT hn) (by decide)
  exact join_any B W 1 1 N 1 1 #[.int .i64 z] [wNets] [z] w hT (SBld.lit (zs := [wNets]) hw rfl (by decide)) hB (by decide) hn rfl (by decide) (by decide) (by decide) (fun i y hy => by
    match i with
    | 0 => simpa using hy
    | i + 1 => simp at hy) (fun x hx => by simp at hx; subst hx; decide) (fun y hy => by simp at hy; subst hy; omega) hne
theorem lineP_any (B W N : Nat) (p : Pt) (w : World) (hT : Tab10 B w) (hw : Blk w W #[.string ⟨#[112, 111, 114, 116]⟩, .string p.name] 9) (hn : Blk w N #[.int .i64 p.net] 2) (hB : B ≤ W) (hz : 0 ≤ p.net ∧ p.net ≤ 24) (hs : p.name.size ≤ 8) :
    Calls Tryd.prog 26 #[.slice (some ⟨W, 0, none⟩) 2 2, .slice (some ⟨N, 0, none⟩) 1 1] w fun e w' => e = .returned (.string (lnP p)) ∧ Within W (W + 1) w w' := by
  have hne : W ≠ N := fun e => by subst e; exact absurd (hw.sameT hn) (by decide)
  exact join_any B W 2 2 N 1 1 #[.int .i64 p.net] [wPort, p.name] [p.net] w hT (SBld.lit (zs := [wPort, p.name]) hw rfl (by simp)) hB (by decide) hn rfl (by decide) (by decide) (by decide) (fun i y hy => by
    match i with
    | 0 => simpa using hy
    | i + 1 => simp at hy) (fun x hx => by
      simp at hx
      rcases hx with rfl | rfl
      · decide
      · omega) (fun y hy => by simp at hy; subst hy; omega) hne
theorem lineD_any (B W lo hi m : Nat) (d : Dv) (a : Option Addr) (c : Nat) (w : World) (hT : Tab10 B w) (hw : Blk w W #[.string (kindS d.kind)] 9) (hn : BldI w lo hi (.slice a m c) (d.pins ++ [d.wd, d.len])) (hB : B ≤ W) (hm : d.pins.length + 2 = m) (h3 : d.pins.length ≤ 3)
    (hz : ∀ z ∈ d.pins, 0 ≤ z ∧ z ≤ 24) (h1 : 0 ≤ d.wd ∧ d.wd ≤ 1000000) (h2 : 0 ≤ d.len ∧ d.len ≤ 1000000) :
    Calls Tryd.prog 26 #[.slice (some ⟨W, 0, none⟩) 1 1, .slice a m c] w fun e w' => e = .returned (.string (lnD d)) ∧ Within W (W + 1) w w' := by
  rcases hn.own with ⟨_, _, _, h0⟩ | ⟨G, cap, cs, hv, hG1, hG2, hl1, hl2, hBk, hcell⟩
  · simp at h0
  simp only [Value.slice.injEq] at hv
  obtain ⟨rfl, e1, rfl⟩ := hv
  rw [← e1] at hl1
  have hne : W ≠ G := fun e => by subst e; exact absurd (hw.sameT hBk) (by decide)
  exact join_any B W 1 1 G c m cs [kindS d.kind] (d.pins ++ [d.wd, d.len]) w hT (SBld.lit (zs := [kindS d.kind]) hw rfl (by simp)) hB (by decide) hBk e1.symm (by omega) hl1 hl2 hcell (fun x hx => by
      simp at hx; subst hx; rw [size_kindS]; decide) (fun y hy => by
      rcases List.mem_append.1 hy with h | h
      · have := hz y h; omega
      · simp at h
        rcases h with rfl | rfl <;> omega) hne
/-- slices.Clone of numbers: a slice that may grow. -/
theorem cloneI_any (sv : Value) (zs : List Int) (w : World) (h : IntSl w sv zs) (hn : 1 ≤ zs.length ∧ zs.length ≤ 1000) :
    Calls Tryd.prog 27 #[sv] w fun e w' => ∃ v, e = .returned v ∧ BldI w' w.heap.size w'.heap.size v zs ∧ Below w.heap.size w w' := by
  obtain ⟨i0, hi0, hz0, hz1, hz2⟩ := info_parts infoI
  rcases h with ⟨a, c, h1, h2⟩ | ⟨b, off, cap, h1, h2, h3, h4⟩
  · rw [h2] at hn; simp at hn
  · subst h1
    have hcon := Tryd.slices_Clone i0 _ 1 8 hi0 hz0 hz1 hz2 rfl (by decide) (fun w => by kernel_rfl) b off zs.length cap (icells zs) w (by simp [icells]) (by unfold maxLen; omega) (by omega) (fun j u hu => by
      simp only [icells, List.getElem?_map] at hu
      match hz : zs[j]? with
      | none => rw [hz] at hu; cases hu
      | some z => rw [hz] at hu; cases hu; exact h4 j z hz) (fun u hu => by
      simp only [icells, List.mem_map] at hu
      obtain ⟨_, _, rfl⟩ := hu
      rfl)
    refine hcon.mono ?_
    rintro e w' ⟨v', rfl, ho, _, hb⟩
    refine ⟨v', rfl, ⟨Nat.le_refl _, ho, fun g hg => ?_⟩, hb⟩
    obtain ⟨_, ho⟩ := ho
    rcases ho with ⟨e1, e2⟩ | ⟨g', cap', cur, e1, e2, e3, _⟩
    · omega
    · rw [e1] at hg
      have : g' = g := by injection hg
      subst this
      exact ⟨e2, Blk.lt e3⟩
end Go.Proofs.YtglddnkpccgchaaDoor
