/- The program's ColorClasses. -/
import Derived.Test.YtjldkejegdljiaaClsM
import Derived.Test.YtjldkejegdljiaaBinS
import Derived.Test.YtjldkejegdljiaaDifs
import Derived.Test.YtjldkejegdljiaaNetBs
namespace Go.Proofs.Ytjldkejegdljiaa
open Go.RowKit
set_option linter.unusedVariables false
set_option linter.unusedSimpArgs false

theorem list_pushGI {ops : Array Oper} {rest : List Oper} {o : Oper} {a : Act} {w : World} {Q : Exit → Act → World → Prop} (hgd : o.guard = none) (s x : Operand)
    (ho : o.op = .call { callee := .builtin .append, args := #[s, x], argTypes := #[39, 39] })
    (lo hi : Nat) (v : Value) (zs ys : List Int) (hs : a.eval s = v) (hB : BldI w lo hi v zs) (nb m : Nat) (cs : Array Value) (hx : a.eval x = .slice (some ⟨nb, 0, none⟩) m m) (hys : ys.length = m) (hm : 0 < m)
    (hnb : Blk w nb cs 2) (hcs : cs.toList = icells ys) (hlo : lo ≤ hi) (hn : zs.length + m ≤ 8000000)
    (hK : ∀ g c' w', BldI w' lo w'.heap.size (.slice (some ⟨g, 0, none⟩) (zs.length + m) c') (zs ++ ys) → (∀ k, k < w.heap.size → v.ownBlock ≠ some k → w'.heap[k]? = w.heap[k]?) → (v.ownBlock = some g ∨ w.heap.size ≤ g) → Within lo hi w w' → wpList Try.prog ops Q rest (a.put o.dst (.slice (some ⟨g, 0, none⟩) (zs.length + m) c')) w') : wpList Try.prog ops Q (o :: rest) a w :=
  wpList_plain hgd fun K hk => by
    have h := step_pushG (ops := ops) (K := K) (Q := Q) (E := False) hgd s x ho lo hi v zs ys hs hB nb m cs hx hys hm hnb hcs hlo hn (fun a' c' w' h1 h2 h3 h4 => hk _ _ (hK a' c' w' h1 h2 h3 h4))
    rwa [if_pos (by simp [Region.wanted, hgd])] at h

/-- What the program hands back: a block of rows, each in memory of its own. -/
def ClsV (w : World) (lo : Nat) (v : Value) (zs : List Int) : Prop :=
  (24 < zs.length ∧ v = .slice none 0 0) ∨ (zs.length ≤ 24 ∧ ∃ N, v = .slice (some ⟨N, 0, none⟩) (colA zs).length (colA zs).length ∧ lo ≤ N ∧ NetsI w N (N + 1) (colA zs).length (fun j : Nat => clsTo zs ((colA zs).getD j 0) zs.length))

set_option maxRecDepth 100000 in
set_option maxHeartbeats 4000000 in
theorem implCls_any (sv : Value) (zs : List Int) (w : World) (h : IntSl w sv zs) (hl : zs.length ≤ 1048576) :
    Calls Try.prog 18 #[sv] w fun e w' => ∃ v, e = .returned v ∧ ClsV w' w.heap.size v zs ∧ Below w.heap.size w w' := by
  have H := Lib.hid h
  obtain ⟨a, c, rfl⟩ := h.len
  by_cases h24 : 24 < zs.length
  · have i1 : (24 : Int) < (zs.length : Int) := by omega
    clear h
    go_enter Try.func18, Try.ntmps18
    go_wp2
    go_ret
    exact ⟨_, rfl, .inl ⟨h24, rfl⟩, Below.refl _ _⟩
  · have i1 : ¬ (24 : Int) < (zs.length : Int) := by omega
    have HSO := Lib.hid (fun Bs sv w h1 h2 h3 => sorted_any Bs sv zs (by omega) w h1 h2 h3)
    obtain ⟨ws, hws⟩ : ∃ ws, srt zs = ws := ⟨_, rfl⟩
    have hwl : ws.length ≤ 1000000 := by rw [← hws, length_srt]; omega
    have HCM := Lib.hid (fun lo hi v w h => compactB_any lo hi v ws w h hwl)
    obtain ⟨AA, hAA⟩ : ∃ A, colA zs = A := ⟨_, rfl⟩
    have hdd : ddp ws = AA := by rw [← hws, ← hAA]; rfl
    rw [hws] at HSO
    rw [hdd] at HCM
    have hm24 : AA.length ≤ 24 := by
      rw [← hAA, length_colA]
      have := difI_le zs
      omega
    have HASC := Lib.hid (show AA.Pairwise (fun a b => a < b) by rw [← hAA]; exact colA_lt zs)
    have HMEM := Lib.hid (fun z => show z ∈ zs → ∃ r : Nat, AA[r]? = some z by
      rw [← hAA]
      intro hz
      obtain ⟨s, hs, e⟩ := List.mem_iff_getElem.1 (mem_colA.2 hz)
      exact ⟨s, by rw [List.getElem?_eq_getElem hs, e]⟩)
    have HINJ := Lib.hid (fun i j x => show AA[i]? = some x → AA[j]? = some x → i = j by rw [← hAA]; exact colA_inj)
    have HST := Lib.hid (fun x k z h => clsTo_step zs x k z h)
    have HLE := Lib.hid (fun x k => clsTo_len zs x k)
    have HC0 := Lib.hid (fun x => show clsTo zs x 0 = [] from rfl)
    have HBS := Lib.hid (fun sv x r w h hr => binSearch_any sv AA x r w h HASC.out hr (by omega))
    have HAA := Lib.hid hAA
    have H24 := Lib.hid h24
    clear h hws hdd hwl hAA h24
    go_enter Try.func18, Try.ntmps18
    go_wp2_with (first | (go_at_call 59; refine (values_any _ _ _ _).mono ?_; rintro e w' ⟨rfl, rfl⟩) | (go_at_call 58; refine (HSO.out w.heap.size (.slice a zs.length c) _ (by simp) ((Blk.new (cs := #[.slice a zs.length c]) (T := 39) w.heap.size rfl : Blk (w.alloc _) w.heap.size _ _).cell 0) ((H.out.by ((Below.refl _ w).alloc (Nat.le_refl _) _)).at)).mono ?_; rintro e w1 ⟨v, rfl, hB, hb⟩; obtain ⟨a1, c1, rfl⟩ := hB.sized; have HB := Lib.hid hB; have Hb := Lib.hid hb; clear hB hb))
    go_at_call 57
    refine (HCM.out _ _ _ _ HB.out).mono ?_
    rintro e w2 ⟨v2, rfl, hI2, hw2⟩
    obtain ⟨a2, c2, rfl⟩ := hI2.len
    have HI2 := Lib.hid hI2
    have h1 := Hb.out
    have hbw1 : Below w.heap.size w w1 := below_on h1 ((Below.refl _ w).alloc (Nat.le_refl _) _)
    have hb2 : Below w.heap.size w w2 := hw2.below hbw1 (by simp)
    obtain ⟨m, hm⟩ : ∃ m, AA.length = m := ⟨_, rfl⟩
    have HM := Lib.hid hm
    rw [hm] at hm24 ⊢
    obtain ⟨N, hN⟩ : ∃ N, w2.heap.size = N := ⟨_, rfl⟩
    obtain ⟨cs0, hcs0, hcz, hmk⟩ := make_lists m (by omega) w2
    rw [hN] at hmk
    have hNw : w.heap.size ≤ N := by rw [← hN]; exact hb2.size
    clear hI2 hw2 h1 hbw1 hm
    go_wp2
    clear hmk
    obtain ⟨wI, hwI⟩ : ∃ wI, wI = w2.alloc (.cells cs0 39) := ⟨_, rfl⟩
    have hal : Below w2.heap.size w2 wI := by rw [hwI]; exact (Below.refl _ w2).alloc (Nat.le_refl _) _
    have hsI : wI.heap.size = N + 1 := by rw [hwI]; simp [hN]
    have HNI : Hid (NetsI wI N (N + 1) m (fun j : Nat => clsTo zs (AA.getD j 0) 0)) := by
      apply Lib.hid
      refine ⟨cs0, fun _ => .slice none 0 0, by rw [hwI]; exact Blk.new _ hN.symm, hcs0, fun j hj => ⟨hcz j hj, ?_⟩, fun i j hi hj hij g hg => by cases hg⟩
      show BldI wI (N + 1) wI.heap.size (.slice none 0 0) (clsTo zs (AA.getD j 0) 0)
      rw [HC0.out]
      exact BldI.nil wI (N + 1)
    have hal' : Below N w2 wI := by rw [← hN]; exact hal
    have Hb2 := Lib.hid hb2
    have HN2 := Lib.hid hN
    (try rw [← hwI])
    (try rw [hN])
    clear hwI hal hcs0 hcz hN hb2
    go_loopw [21] (fun i wr => ∃ k : Nat, k ≤ zs.length ∧ i = .int .i64 (k : Int) ∧ Hid (NetsI wr N (N + 1) m (fun j : Nat => clsTo zs (AA.getD j 0) k)) ∧ N < wr.heap.size ∧ Below N w2 wr) (fun i _ => zs.length - (intOf i).toNat)
    case atStart => exact ⟨0, Nat.zero_le _, rfl, HNI, by omega, hal'⟩
    case round =>
      clear HNI hal' hsI
      obtain ⟨k, hk, rfl, HNI, hNs, hb⟩ := hrel
      have hbw : Below w.heap.size w wr := Hb2.out.trans (hb.mono hNw)
      have hb' : Below w2.heap.size w2 wr := by rw [HN2.out]; exact hb
      by_cases hlt : k < zs.length
      · obtain ⟨z, hz⟩ : ∃ z, zs[k]? = some z := ⟨zs[k], List.getElem?_eq_getElem hlt⟩
        obtain ⟨r, hr⟩ := HMEM.out z (List.mem_of_getElem? hz)
        have hrm : r < m := by rw [← HM.out]; exact (List.getElem?_eq_some_iff.1 hr).1
        have hrd : AA.getD r 0 = z := by simp [List.getD_eq_getElem?_getD, hr]
        rcases H.out with ⟨_, _, _, e2⟩ | ⟨b, off, cap, he, _, _, h4⟩
        · rw [e2] at hz; simp at hz
        obtain ⟨rfl, rfl⟩ : a = some ⟨b, off, none⟩ ∧ c = cap := by simpa using he
        have hc := cell_by' hbw (h4 k z hz)
        have hbs := HBS.out _ z r wr (HI2.out.by hb') hr
        rw [HM.out] at hbs
        have HBSX := Lib.hid hbs
        have HSTX : Hid (∀ j : Nat, clsTo zs (AA.getD j 0) (k + 1) = clsTo zs (AA.getD j 0) k ++ (if z = AA.getD j 0 then [(k : Int)] else [])) := Lib.hid (fun j => HST.out _ k z hz)
        have HOTH : Hid (∀ i, i < m → i ≠ r → ¬ z = AA.getD i 0) := Lib.hid (fun i hi hne e => by
          have hi' : AA[i]? = some (AA.getD i 0) := by
            rw [List.getD_eq_getElem?_getD, List.getElem?_eq_getElem (by rw [HM.out]; exact hi)]
            rfl
          rw [← e] at hi'
          exact hne (HINJ.out i r z hi' hr))
        have HRD := Lib.hid hrd
        have i2 : (0 : Int) ≤ (k : Int) := by omega
        have i3 : (k : Int) < (zs.length : Int) := by omega
        obtain ⟨cs, vs, n1, n2, n3, n4⟩ := HNI.out
        obtain ⟨n5, n6⟩ := n3 r hrm
        (try dsimp only at n6)
        rw [hrd] at n6
        obtain ⟨Zr, hZr⟩ : ∃ Z, clsTo zs z k = Z := ⟨_, rfl⟩
        have hlen := HLE.out z k
        rw [hZr] at n6 hlen
        have HZR := Lib.hid hZr
        obtain ⟨av, cv, hvs⟩ := n6.sized
        have cN : wr.cell? ⟨N, r, none⟩ = some (vs r) := (n1.cell _).trans n5
        rw [hvs] at cN n6
        have HVS := Lib.hid hvs
        have HN1 := Lib.hid n1
        have HN2' := Lib.hid n2
        have HN3 := Lib.hid n3
        have HN4 := Lib.hid n4
        have HN6 := Lib.hid n6
        have hvl : ∀ g, (Value.slice av Zr.length cv).ownBlock = some g → N + 1 ≤ g ∧ g < wr.heap.size := fun g e => n6.2.2 g e
        have HVL := Lib.hid hvl
        have i4 : (0 : Int) ≤ (r : Int) := by omega
        have i5 : (r : Int) < (m : Int) := by omega
        clear hz hr h4 he hbs n1 n2 n3 n4 n5 n6 hvl hvs hZr hrd
        go_wp2_with fail
        refine HBSX.out.mono ?_
        rintro e w4 ⟨rfl, rfl⟩
        go_wp2_with (refine list_pushGI (by rfl) _ _ (by rfl) (N + 1) wr.heap.size (.slice av Zr.length cv) Zr [(k : Int)] (by rfl) (HN6.out.by (by ((repeat (first | (with_reducible exact Below.refl _ _) | (with_reducible refine below_drewN ?_ _) | (with_reducible refine Below.drew ?_) | (with_reducible refine below_al ?_ _) | (with_reducible refine below_on (by assumption) ?_) | ((with_reducible refine Below.setCell ?_ ?_ _); rotate_left; focus (first | omega | (simp; done) | (simp; omega))) | (with_reducible assumption))); done))) wr.heap.size 1 #[.int .i64 (k : Int)] (by rfl) rfl (by omega) (Blk.new _ rfl) rfl (by omega) (by omega) ?_; intro g5 c5 w5 hB5 hk5 ho5 hw5; have HB5 := Lib.hid hB5; have HK5 := Lib.hid hk5; have HO5 := Lib.hid ho5; have hs5 := hw5.size; simp only [World.size_alloc] at hs5; have kN5 : Blk w5 N cs 39 := hw5.blk (HN1.out.past _) (.inl (by omega)); have fN5 := kN5.free; have lN5 := kN5.lt; have cN5 := (kN5.cell r).trans (HN3.out r hrm).1; clear hB5 hk5 ho5)
        have hbf : Below N w2 w5 := ⟨hw5.os.trans hb.os, hw5.tape.trans hb.tape, hw5.output.trans hb.output, by have := hb.size; omega, fun q hq => (hw5.block q (by simp; omega) (.inl (by omega))).trans (((Below.refl _ wr).alloc (Nat.le_refl _) _).block q (by omega) |>.trans (hb.block q hq))⟩
        have hlst : clsTo zs (AA.getD r 0) (k + 1) = Zr ++ [(k : Int)] := by rw [HSTX.out, HRD.out, if_pos rfl, HZR.out]
        have hlen2 : (Zr ++ [(k : Int)]).length = Zr.length + 1 := by simp
        have hold : ∀ q, q < wr.heap.size → (Value.slice av Zr.length cv).ownBlock ≠ some q → w5.heap[q]? = wr.heap[q]? := fun q hq hne => (HK5.out q (by simp; omega) hne).trans (((Below.refl _ wr).alloc (Nat.le_refl _) _).block q hq)
        have hfin := NetsI.grow (lst := (fun j : Nat => clsTo zs (AA.getD j 0) k)) (lst' := (fun j : Nat => if j < m then clsTo zs (AA.getD j 0) (k + 1) else clsTo zs (AA.getD j 0) k)) (g := g5) (cap := c5) HN1.out HN2'.out HN3.out HN4.out hrm (by omega) (by
          (try dsimp only)
          rw [if_pos hrm, hlst, hlen2]
          exact HB5.out) (by rw [HVS.out]; exact hold) (by rw [HVS.out]; exact HO5.out.imp id (fun e => by simp at e; omega)) (by omega) (fun i hi => by
          (try dsimp only)
          split
          · rename_i him
            rw [HSTX.out, if_neg (HOTH.out i him hi), List.append_nil]
          · rfl)
        (try dsimp only at hfin)
        rw [if_pos hrm, hlst, hlen2] at hfin
        refine ⟨⟨k + 1, by omega, by go_num, Lib.hid ?_, by simp; omega, hbf.setCell (Nat.le_refl _) _⟩, by simp [intOf]; omega⟩
        obtain ⟨ds, us, m1, m2, m3, m4⟩ := hfin
        refine ⟨ds, us, m1, m2, fun j hj => ?_, m4⟩
        have := m3 j hj
        (try dsimp only at this)
        rw [if_pos hj] at this
        exact this
      · obtain rfl : k = zs.length := by omega
        have i2 : ¬ (zs.length : Int) < (zs.length : Int) := by omega
        go_wp2
        go_ret
        refine ⟨_, rfl, .inr ⟨by have := H24.out; omega, N, ?_, hNw, ?_⟩, hbw⟩
        · rw [HAA.out, HM.out]
          rfl
        · rw [HAA.out, HM.out]
          exact HNI.out
end Go.Proofs.Ytjldkejegdljiaa
