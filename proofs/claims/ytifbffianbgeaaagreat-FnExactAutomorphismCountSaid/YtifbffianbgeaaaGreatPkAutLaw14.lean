/- Contracts and plain laws, part 14, for the statement's proof. -/
import Derived.Test.YtifbffianbgeaaaGreatPkAutLaw13
import Derived.BigQuiet
import Derived.Deep.DeepCutAuto
import Derived.Deep.AppendSrc
import Derived.Deep.CutRange
namespace Go.Proofs.YtifbffianbgeaaaGreat
open Go.RowKit
set_option linter.unusedVariables false
set_option linter.unusedSimpArgs false
def HasN (w : World) (g n : Nat) (zs : List Int) : Prop := ∃ cs : Array Value, Blk w g cs 2 ∧ cs.size = n ∧ ICs cs zs
theorem HasN.by {w w' : World} {g n : Nat} {zs : List Int} (hb : Below w.heap.size w w') (h : HasN w g n zs) : HasN w' g n zs := by
  obtain ⟨cs, a, b⟩ := h; exact ⟨cs, Blk.by hb a, b⟩
theorem HasN.sl {w : World} {g n : Nat} {zs : List Int} (h : HasN w g n zs) (hz : zs.length = n) (hn : n ≤ 1000) : IntSl w (.slice (some ⟨g, 0, none⟩) n n) zs := by
  obtain ⟨cs, a, b, c⟩ := h
  have : OwnR w g (g + 1) (.slice (some ⟨g, 0, none⟩) zs.length n) zs := ICs.own c a (by omega) (by unfold maxLen; omega)
  rw [hz] at this
  exact this.sl
theorem HasN.nm {w : World} {g n i : Nat} {zs : List Int} (h : HasN w g n zs) (hz : zs.length = n) (hi : i < n) : w.cell? ⟨g, i, none⟩ = some (.int .i64 (nmOf zs (i : Int))) := by
  obtain ⟨cs, a, b, c⟩ := h
  exact (a.cell i).trans (c i _ (nm_get (by omega)))
theorem prtLR_of {ps qs : List Pt} {l r : List Int} {i : Nat} {a b : Pt} (ha : ps[i]? = some a) (hb : qs[i]? = some b) : prtLR ps qs l r i = decide (nmOf l a.net = nmOf r b.net) := by unfold prtLR; rw [ha, hb]
structure FitS (w : World) (n : Nat) (A B : Array Value) (ls rs : List Int) (wr : World) : Prop where
  a : Blk wr w.heap.size A 35
  b : Blk wr (w.heap.size + 1) B 35
  l : HasN wr (w.heap.size + 2) n ls
  r : HasN wr (w.heap.size + 3) n rs
  below : Below w.heap.size w wr
theorem FitS.setL {w wr : World} {n : Nat} {A B : Array Value} {ls rs : List Int} (h : FitS w n A B ls rs wr) (k : Nat) (v : Int) : FitS w n A B (ls.set k v) rs (wr.setCell ⟨w.heap.size + 2, k, none⟩ (.int .i64 v)) := by
  obtain ⟨cs, e1, e2, e3⟩ := h.l
  obtain ⟨ds, f1, f2, f3⟩ := h.r
  exact ⟨h.a.apart _ _ _ (by omega), h.b.apart _ _ _ (by omega), ⟨_, e1.set k _, by simpa using e2, e3.set k v⟩, ⟨ds, f1.apart _ _ _ (by omega), f2, f3⟩, h.below.setCell (show w.heap.size ≤ w.heap.size + 2 by omega) _⟩
theorem FitS.setR {w wr : World} {n : Nat} {A B : Array Value} {ls rs : List Int} (h : FitS w n A B ls rs wr) (k : Nat) (v : Int) : FitS w n A B ls (rs.set k v) (wr.setCell ⟨w.heap.size + 3, k, none⟩ (.int .i64 v)) := by
  obtain ⟨cs, e1, e2, e3⟩ := h.l
  obtain ⟨ds, f1, f2, f3⟩ := h.r
  exact ⟨h.a.apart _ _ _ (by omega), h.b.apart _ _ _ (by omega), ⟨cs, e1.apart _ _ _ (by omega), e2, e3⟩, ⟨_, f1.set k _, by simpa using f2, f3.set k v⟩, h.below.setCell (show w.heap.size ≤ w.heap.size + 3 by omega) _⟩
theorem ics_zero {cs : Array Value} {n : Nat} (h : ∀ i, i < n → cs[i]? = some (Value.int .i64 0)) : ICs cs (negTo n 0) := by
  intro i z hz
  rw [negTo_zero] at hz
  have hi : i < n := by have := (List.getElem?_eq_some_iff.1 hz).1; simpa using this
  rw [List.getElem?_eq_getElem (by simpa using hi)] at hz
  simp at hz
  subst hz
  exact h i hi
set_option maxRecDepth 100000 in
set_option maxHeartbeats 8000000 in
theorem l30Fits_any (x y : Nl) (nets : List Int) (v u sn : Value) (w : World) (h : NlV w v x) (h' : NlV w u y) (hn : IntSl w sn nets) (hx : nlB x = true) (hy : nlB y = true) (hxy : y.nets = x.nets) (hpl : y.ps.length = x.ps.length) (hg : goodN x.nets.toNat nets) :
    Calls Tryz.prog 106 #[v, u, sn] w fun e w' => e = .returned (.bool (fitB x y nets)) ∧ Below w.heap.size w w' := by
  obtain ⟨⟨n0, n1⟩, hl1, hp1, hdx, _⟩ := nlB_facts hx
  obtain ⟨_, hl2, _, hdy, _⟩ := nlB_facts hy
  obtain ⟨n, hnn⟩ : ∃ n : Nat, x.nets = n := ⟨x.nets.toNat, by omega⟩
  have hnt : x.nets.toNat = n := by omega
  have HPX := Lib.hid (fun p (h : p ∈ x.ps) => pt_in hx h)
  have HPY := Lib.hid (fun p (h : p ∈ y.ps) => pt_in hy h)
  have HFB : fitB x y nets = (allB (prtLR x.ps y.ps (lefTo n nets.length) (rigTo n nets nets.length)) x.ps.length && decide (innerS x.ds (lefTo n nets.length) = innerS y.ds (rigTo n nets nets.length))) := by
    unfold fitB; rw [hxy, hnt]
  rw [HFB]
  rw [hnt] at hg
  have hm : nets.length ≤ n := by
    have := nodup_sub_len (a := nets) (b := iota n) hg.1 (fun z hz => (mem_iota _ _).2 (by have := hg.2 z hz; omega))
    rwa [length_iota] at this
  have HG := Lib.hid hg
  have HI1 := Lib.hid (fun names v sn w h hn hd => l30Inner_any x names v sn w h hn hl1 hd)
  have HI2 := Lib.hid (fun names v sn w h hn hd => l30Inner_any y names v sn w h hn hl2 hd)
  have HDX := Lib.hid (show ∀ d ∈ x.ds, 2 ≤ d.pins.length ∧ d.pins.length ≤ 3 ∧ ∀ p ∈ d.pins, 0 ≤ p ∧ p < (n : Int) from fun d hd => by have := dvB_pins (hdx d hd); exact ⟨this.2.1, this.1, fun p hp => by have := this.2.2 p hp; omega⟩)
  have HDY := Lib.hid (show ∀ d ∈ y.ds, 2 ≤ d.pins.length ∧ d.pins.length ≤ 3 ∧ ∀ p ∈ d.pins, 0 ≤ p ∧ p < (n : Int) from fun d hd => by have := dvB_pins (hdy d hd); exact ⟨this.2.1, this.1, fun p hp => by have := this.2.2 p hp; omega⟩)
  have HEQ := Lib.hid (fun xs ys s1 s2 w h h' hl hl' => l30Equal_any xs ys s1 s2 w h h' hl hl')
  have HNA := Lib.hid h
  have HNB := Lib.hid h'
  have HN := Lib.hid hn
  obtain ⟨a1, c1, a2, c2, rfl⟩ := h.sized
  obtain ⟨b1, d1, b2, d2, rfl⟩ := h'.sized
  obtain ⟨an, cn, rfl⟩ := hn.len
  obtain ⟨p, hpx⟩ : ∃ p, x.ps.length = p := ⟨_, rfl⟩
  obtain ⟨L1, hL1⟩ : ∃ L, x.ds.length = L := ⟨_, rfl⟩
  obtain ⟨L2, hL2⟩ : ∃ L, y.ds.length = L := ⟨_, rfl⟩
  obtain ⟨m, hml⟩ : ∃ m, nets.length = m := ⟨_, rfl⟩
  rw [hxy] at HNB ⊢
  rw [hpl] at HNB ⊢
  rw [hnn, hpx, hL1] at HNA
  rw [hnn, hpx, hL2] at HNB
  rw [hnn, hpx, hL1, hL2, hml]
  rw [hml] at hm HN
  have HPL := Lib.hid hpx
  have HPL2 := Lib.hid (hpl.trans hpx)
  have HL1 := Lib.hid hL1
  have HL2 := Lib.hid hL2
  have HML := Lib.hid hml
  have hn24 : n ≤ 24 := by omega
  have hp8 : p ≤ 8 := by omega
  have hL24 : L1 ≤ 24 ∧ L2 ≤ 24 := by omega
  have HXN := Lib.hid hnn
  have HYN := Lib.hid (hxy.trans hnn)
  clear h h' hn hx hy hxy hpl hg hdx hdy hpx hL1 hL2 hml hnn hnt n0 n1 hl1 hl2 hp1 HFB
  have HAY := Lib.hid (@allB_yes (prtLR x.ps y.ps (lefTo n m) (rigTo n nets m)) p)
  have HAN := Lib.hid (fun i h h' => @allB_no (prtLR x.ps y.ps (lefTo n m) (rigTo n nets m)) p i h h')
  generalize allB (prtLR x.ps y.ps (lefTo n m) (rigTo n nets m)) p = rA at *
  have HLF := Lib.hid (length_lefTo n)
  have HRF := Lib.hid (length_rigTo n nets)
  obtain ⟨cs0, hcs0, hz0, hmk0⟩ := make_ints n (by omega) ((w.alloc (.cells #[.int .i64 (n : Int), .slice a1 L1 c1, .slice a2 p c2] 35)).alloc (.cells #[.int .i64 (n : Int), .slice b1 L2 d1, .slice b2 p d2] 35))
  obtain ⟨cs1, hcs1, hz1, hmk1⟩ := make_ints n (by omega) (((w.alloc (.cells #[.int .i64 (n : Int), .slice a1 L1 c1, .slice a2 p c2] 35)).alloc (.cells #[.int .i64 (n : Int), .slice b1 L2 d1, .slice b2 p d2] 35)).alloc (.cells cs0 2))
  have HS0 : Hid (FitS w n #[.int .i64 (n : Int), .slice a1 L1 c1, .slice a2 p c2] #[.int .i64 (n : Int), .slice b1 L2 d1, .slice b2 p d2] (negTo n 0) (negTo n 0) ((((w.alloc (.cells #[.int .i64 (n : Int), .slice a1 L1 c1, .slice a2 p c2] 35)).alloc (.cells #[.int .i64 (n : Int), .slice b1 L2 d1, .slice b2 p d2] 35)).alloc (.cells cs0 2)).alloc (.cells cs1 2))) := Lib.hid
    ⟨(((Blk.new _ rfl).past _).past _).past _, ((Blk.new _ (by simp)).past _).past _, ⟨cs0, (Blk.new _ (by simp)).past _, hcs0, ics_zero hz0⟩, ⟨cs1, Blk.new _ (by simp), hcs1, ics_zero hz1⟩, ((((Below.refl _ w).alloc (Nat.le_refl _) _).alloc (by simp) _).alloc (by simp; omega) _).alloc (by simp; omega) _⟩
  clear hz0 hz1
  simp only [World.size_alloc] at hmk0 hmk1
  go_enter Tryz.func106, Tryz.ntmps106
  go_wp2
  clear hmk0 hmk1
  go_loopw [9] (fun i wr => ∃ k : Nat, k ≤ n ∧ i = .int .i64 (k : Int) ∧ Hid (FitS w n #[.int .i64 (n : Int), .slice a1 L1 c1, .slice a2 p c2] #[.int .i64 (n : Int), .slice b1 L2 d1, .slice b2 p d2] (negTo n k) (negTo n 0) wr)) (fun i _ => n - (intOf i).toNat)
  case atStart => exact ⟨0, Nat.zero_le _, rfl, HS0⟩
  case round =>
    clear HS0 hcs0 hcs1
    obtain ⟨k, hk, rfl, HS⟩ := hrel
    by_cases hlt : k < n
    · have i1 : (k : Int) < (n : Int) := by omega
      have i2 : decide (k < n) = true := decide_eq_true hlt
      obtain ⟨cs, kL, hsz, hIC⟩ := HS.out.l
      obtain ⟨u0_, d0⟩ : ∃ u, cs[k]? = some u := ⟨_, Array.getElem?_eq_getElem (by omega)⟩
      have cL := (kL.cell k).trans d0
      have fL := kL.free k
      have lL := kL.lt
      have HX := Lib.hid (negTo_step hlt ▸ HS.out.setL k (-1))
      clear kL hsz hIC d0 HS
      go_wp2
      exact ⟨⟨k + 1, by omega, by go_num, HX⟩, by simp [intOf]; omega⟩
    · obtain rfl : n = k := by omega
      have i1 : ¬ (n : Int) < (n : Int) := by omega
      clear hlt hk
      go_wp2
      go_loopw [10] (fun i wr => ∃ k : Nat, k ≤ n ∧ i = .int .i64 (k : Int) ∧ Hid (FitS w n #[.int .i64 (n : Int), .slice a1 L1 c1, .slice a2 p c2] #[.int .i64 (n : Int), .slice b1 L2 d1, .slice b2 p d2] (negTo n n) (negTo n k) wr)) (fun i _ => n - (intOf i).toNat)
      case atStart => exact ⟨0, Nat.zero_le _, rfl, HS⟩
      case round =>
        clear HS
        obtain ⟨k, hk, rfl, HS⟩ := hrel
        by_cases hlt : k < n
        · have i1 : (k : Int) < (n : Int) := by omega
          have i2 : decide (k < n) = true := decide_eq_true hlt
          obtain ⟨cs, kL, hsz, hIC⟩ := HS.out.r
          obtain ⟨u0_, d0⟩ : ∃ u, cs[k]? = some u := ⟨_, Array.getElem?_eq_getElem (by omega)⟩
          have cL := (kL.cell k).trans d0
          have fL := kL.free k
          have lL := kL.lt
          have HX := Lib.hid (negTo_step hlt ▸ HS.out.setR k (-1))
          clear kL hsz hIC d0 HS
          go_wp2
          exact ⟨⟨k + 1, by omega, by go_num, HX⟩, by simp [intOf]; omega⟩
        · obtain rfl : n = k := by omega
          have i1 : ¬ (n : Int) < (n : Int) := by omega
          have HS' : Hid (FitS w n #[.int .i64 (n : Int), .slice a1 L1 c1, .slice a2 p c2] #[.int .i64 (n : Int), .slice b1 L2 d1, .slice b2 p d2] (lefTo n 0) (rigTo n nets 0) wr) := Lib.hid (by have := HS.out; rw [negTo_all] at this; exact this)
          clear hlt hk HS
          go_wp2
          go_loopw [11] (fun i wr => ∃ k : Nat, k ≤ m ∧ i = .int .i64 (k : Int) ∧ Hid (FitS w n #[.int .i64 (n : Int), .slice a1 L1 c1, .slice a2 p c2] #[.int .i64 (n : Int), .slice b1 L2 d1, .slice b2 p d2] (lefTo n k) (rigTo n nets k) wr)) (fun i _ => m - (intOf i).toNat)
          case atStart => exact ⟨0, Nat.zero_le _, rfl, HS'⟩
          case round =>
            clear HS'
            obtain ⟨k, hk, rfl, HS⟩ := hrel
            by_cases hlt : k < m
            · have i1 : (k : Int) < (m : Int) := by omega
              have i2 : decide (k < n) = true := decide_eq_true (by omega)
              have i3 : decide (k < m) = true := decide_eq_true hlt
              have i4 : (k : Int) < (n : Int) := by omega
              have hat := HG.out.at_ (i := k) (by rw [HML.out]; exact hlt)
              obtain ⟨z, hz⟩ : ∃ z : Nat, nmOf nets (k : Int) = z := ⟨(nmOf nets (k : Int)).toNat, by omega⟩
              have hzn : z < n := by omega
              have i5 : decide (z < n) = true := decide_eq_true hzn
              have i6 : (z : Int) < (n : Int) := by omega
              obtain ⟨nb, no, nc, hen, lN, c6⟩ := (HN.out.by HS.out.below).nm (by rw [HML.out]; omega)
              obtain ⟨rfl, rfl⟩ : an = some ⟨nb, no, none⟩ ∧ cn = nc := by
                simp only [Value.slice.injEq] at hen
                exact ⟨hen.1, hen.2.2⟩
              have cN0 := (HN.out.nm (by rw [HML.out]; omega))
              obtain ⟨nb2, no2, nc2, hen2, lN2, c62⟩ := cN0
              simp only [Value.slice.injEq, Option.some.injEq, Addr.mk.injEq, and_true] at hen2
              have cZ := c6 k (by rw [HML.out]; exact hlt)
              rw [hz] at cZ
              have hnbw : nb < w.heap.size := by omega
              obtain ⟨cs, kL, hsz, hIC⟩ := HS.out.l
              obtain ⟨u0_, d0⟩ : ∃ u, cs[k]? = some u := ⟨_, Array.getElem?_eq_getElem (by omega)⟩
              obtain ⟨ds, kR, hsz2, hIC2⟩ := HS.out.r
              obtain ⟨u1_, d1_⟩ : ∃ u, ds[z]? = some u := ⟨_, Array.getElem?_eq_getElem (by omega)⟩
              have cL := (kL.cell k).trans d0
              have fL := kL.free k
              have lL := kL.lt
              have cR := (kR.cell z).trans d1_
              have fR := kR.free z
              have lR := kR.lt
              have HX := Lib.hid (show FitS w n #[.int .i64 (n : Int), .slice a1 L1 c1, .slice a2 p c2] #[.int .i64 (n : Int), .slice b1 L2 d1, .slice b2 p d2] (lefTo n (k + 1)) (rigTo n nets (k + 1)) ((wr.setCell ⟨w.heap.size + 2, k, none⟩ (.int .i64 (k : Int))).setCell ⟨w.heap.size + 3, z, none⟩ (.int .i64 (k : Int))) from by
                have h1 := (HS.out.setL k (k : Int)).setR z (k : Int)
                unfold lefTo rigTo
                rw [hz, Int.toNat_natCast]
                exact h1)
              clear kL hsz hIC d0 HS kR hsz2 hIC2 d1_ c6 hen hz hat c62 hen2 lN2
              go_wp2
              exact ⟨⟨k + 1, by omega, by go_num, HX⟩, by simp [intOf]; omega⟩
            · obtain rfl : m = k := by omega
              have i1 : ¬ (m : Int) < (m : Int) := by omega
              clear hlt hk
              have HLS := Lib.hid (HS.out.l.sl (HLF.out m) (by omega))
              have HRS := Lib.hid (HS.out.r.sl (HRF.out m) (by omega))
              obtain ⟨wo, rfl⟩ : ∃ z : World, z = wr := ⟨_, rfl⟩
              go_wp2
              go_loopw [12] (fun i wr => ∃ k : Nat, k ≤ p ∧ i = .int .i64 (k : Int) ∧ Hid (∀ j, j < k → prtLR x.ps y.ps (lefTo n m) (rigTo n nets m) j = true) ∧ Below wo.heap.size wo wr) (fun i _ => p - (intOf i).toNat)
              case atStart => exact ⟨0, Nat.zero_le _, rfl, Lib.hid (by intro j h; omega), blwT⟩
              case round =>
                obtain ⟨k, hk, rfl, HI, hb⟩ := hrel
                have kA := Blk.by hb HS.out.a
                have kB := Blk.by hb HS.out.b
                have qA := kA.cell
                have qB := kB.cell
                have lA := kA.lt
                have lB := kB.lt
                have hbw := below_on hb HS.out.below
                by_cases hlt : k < p
                · have i1 : (k : Int) < (p : Int) := by omega
                  have i2 : decide (k < p) = true := decide_eq_true hlt
                  obtain ⟨pp, hp⟩ : ∃ p, x.ps[k]? = some p := ⟨_, List.getElem?_eq_getElem (by rw [HPL.out]; exact hlt)⟩
                  obtain ⟨qq, hq⟩ : ∃ q, y.ps[k]? = some q := ⟨_, List.getElem?_eq_getElem (by rw [HPL2.out]; exact hlt)⟩
                  have hat := prtLR_of (l := lefTo n m) (r := rigTo n nets m) hp hq
                  have rp := HPX.out pp (List.mem_of_getElem? hp)
                  have rq := HPY.out qq (List.mem_of_getElem? hq)
                  rw [HXN.out] at rp
                  rw [HYN.out] at rq
                  obtain ⟨_, _, ea, _, hPX⟩ := HNA.out
                  obtain ⟨_, _, eb, _, hPY⟩ := HNB.out
                  simp only [Value.agg.injEq, Array.mk.injEq, List.cons.injEq, and_true] at ea eb
                  obtain ⟨_, _, rfl⟩ := ea
                  obtain ⟨_, _, rfl⟩ := eb
                  rcases hPX with ⟨_, _, _, h2⟩ | ⟨pb, po, pc, he, _, _, h4⟩
                  · rw [h2] at hp; simp at hp
                  obtain ⟨rfl, rfl⟩ : a2 = some ⟨pb, po, none⟩ ∧ c2 = pc := by
                    simp only [Value.slice.injEq] at he
                    exact ⟨he.1, he.2.2⟩
                  rcases hPY with ⟨_, _, _, h2⟩ | ⟨qb, qo, qc, he', _, _, h4'⟩
                  · rw [h2] at hq; simp at hq
                  obtain ⟨rfl, rfl⟩ : b2 = some ⟨qb, qo, none⟩ ∧ d2 = qc := by
                    simp only [Value.slice.injEq] at he'
                    exact ⟨he'.1, he'.2.2⟩
                  obtain ⟨p1, p2⟩ := (h4 k pp hp).by hbw
                  obtain ⟨q1, q2⟩ := (h4' k qq hq).by hbw
                  obtain ⟨name, net⟩ := pp
                  obtain ⟨name', net'⟩ := qq
                  dsimp only at *
                  obtain ⟨u1, rfl⟩ : ∃ z : Nat, net = z := ⟨net.toNat, by omega⟩
                  obtain ⟨u2, rfl⟩ : ∃ z : Nat, net' = z := ⟨net'.toNat, by omega⟩
                  have hu1 : u1 < n := by omega
                  have hu2 : u2 < n := by omega
                  have cl := (HS.out.l.by hb).nm (HLF.out m) hu1
                  have cr := (HS.out.r.by hb).nm (HRF.out m) hu2
                  have HAT := Lib.hid hat
                  obtain ⟨V1, hV1⟩ : ∃ V, nmOf (lefTo n m) (u1 : Int) = V := ⟨_, rfl⟩
                  obtain ⟨V2, hV2⟩ : ∃ V, nmOf (rigTo n nets m) (u2 : Int) = V := ⟨_, rfl⟩
                  rw [hV1] at cl
                  rw [hV2] at cr
                  rw [hV1, hV2] at HAT
                  have i3 : decide (u1 < n) = true := decide_eq_true hu1
                  have i4 : decide (u2 < n) = true := decide_eq_true hu2
                  have i5 : (u1 : Int) < (n : Int) := by omega
                  have i6 : (u2 : Int) < (n : Int) := by omega
                  have hl3 : w.heap.size + 3 < wr.heap.size := by obtain ⟨_, k3, _⟩ := HS.out.r.by hb; exact k3.lt
                  clear hp hq hat he he' h4 h4' hV1 hV2 rp rq
                  by_cases hvv : V1 = V2
                  · subst hvv
                    have e1 : (V1 == V1) = true := by simp
                    have e2 : (V1 != V1) = false := by simp
                    rw [decide_eq_true rfl] at HAT
                    go_wp2
                    go_quiet (fail)
                    go_wp2
                    refine ⟨⟨k + 1, by omega, by go_num, Lib.hid (fun j hj => ?_), (by first | exact hb | exact below_on (below_of_drewN _ _) hb)⟩, by simp [intOf]; omega⟩
                    by_cases ej : j = k
                    · subst ej; exact HAT.out
                    · exact HI.out j (by omega)
                  · have e1 : (V1 == V2) = false := by simpa using hvv
                    have e2 : (V1 != V2) = true := by simpa using hvv
                    rw [decide_eq_false hvv] at HAT
                    obtain rfl : rA = false := HAN.out k hlt HAT.out
                    clear hvv
                    go_wp2
                    go_quiet (fail)
                    go_wp2
                    go_ret
                    exact ⟨by rfl, (by first | exact hbw | exact below_on (below_of_drewN _ _) hbw)⟩
                · obtain rfl : p = k := by omega
                  have i1 : ¬ (p : Int) < (p : Int) := by omega
                  obtain rfl : rA = true := HAY.out (fun j hj => HI.out j hj)
                  have HLL := Lib.hid (HLS.out.by hb)
                  have HRR := Lib.hid (HRS.out.by hb)
                  clear HLS HRS HAY HAN HI HS hb hlt hk
                  go_upto_region 21 with fail
                  have hS : (fun w' : World => Blk w' w.heap.size #[.int .i64 (n : Int), .slice a1 L1 c1, .slice a2 p c2] 35 ∧ Blk w' (w.heap.size + 1) #[.int .i64 (n : Int), .slice b1 L2 d1, .slice b2 p d2] 35) { wr with drawn := wr.drawn + 1 } := ⟨kA.drew, kB.drew⟩
                  refine wp_region_any (by kernel_rfl) (wpAny_of_E (S := fun w' : World => Blk w' w.heap.size #[.int .i64 (n : Int), .slice a1 L1 c1, .slice a2 p c2] 35 ∧ Blk w' (w.heap.size + 1) #[.int .i64 (n : Int), .slice b1 L2 d1, .slice b2 p d2] 35) (l := 7) _ _ _ _ ?_)
                  change wpAnyE _ _ _ _ _ _ _ _ _ wr.drew
                  refine wpAnyE_takeL (i := 0) (v := ?_) rfl (by kernel_rfl) (fun _ _ _ h => h) (Or.inl ⟨by rfl, ?_⟩) hS ?_
                  rotate_left
                  · intro w hSw; (try dsimp only at hSw); have qA := hSw.1.cell; have qB := hSw.2.cell; have lA := hSw.1.lt; have lB := hSw.2.lt; clear hSw; go_simp; (try with_reducible rfl)
                  try simp only [Act.put, List.setIfInBounds_toArray, List.set_cons_zero, List.set_cons_succ]
                  refine wpAnyE_takeL (i := 1) (v := ?_) rfl (by kernel_rfl) (fun _ _ _ h => h) (Or.inl ⟨by rfl, ?_⟩) hS ?_
                  rotate_left
                  · intro w hSw; (try dsimp only at hSw); have qA := hSw.1.cell; have qB := hSw.2.cell; have lA := hSw.1.lt; have lB := hSw.2.lt; clear hSw; go_simp; (try with_reducible rfl)
                  try simp only [Act.put, List.setIfInBounds_toArray, List.set_cons_zero, List.set_cons_succ]
                  refine wpAnyE_takeL (i := 3) (v := ?_) rfl (by kernel_rfl) (fun _ _ _ h => h) (Or.inl ⟨by rfl, ?_⟩) hS ?_
                  rotate_left
                  · intro w hSw; (try dsimp only at hSw); have qA := hSw.1.cell; have qB := hSw.2.cell; have lA := hSw.1.lt; have lB := hSw.2.lt; clear hSw; go_simp; (try with_reducible rfl)
                  try simp only [Act.put, List.setIfInBounds_toArray, List.set_cons_zero, List.set_cons_succ]
                  refine wpAnyE_takeL (i := 4) (v := ?_) rfl (by kernel_rfl) (fun _ _ _ h => h) (Or.inl ⟨by rfl, ?_⟩) hS ?_
                  rotate_left
                  · intro w hSw; (try dsimp only at hSw); have qA := hSw.1.cell; have qB := hSw.2.cell; have lA := hSw.1.lt; have lB := hSw.2.lt; clear hSw; go_simp; (try with_reducible rfl)
                  try simp only [Act.put, List.setIfInBounds_toArray, List.set_cons_zero, List.set_cons_succ]
                  refine wpAnyE_oneL (k := 2) (by kernel_rfl) rfl (fun K hK => ?_)
                  go_simp
                  go_at_call 145
                  refine (HI1.out (lefTo n m) _ _ _ ((HNA.out.by hbw).by (below_of_drewN wr 1)) (HLL.out.by (below_of_drewN wr 1)) (by rw [HLF.out]; exact HDX.out)).mono ?_
                  rintro e w1 ⟨v1, rfl, hO1, hb1⟩
                  obtain ⟨g1, k1, rfl⟩ := hO1.sl.sized
                  have hb1' : Below wr.heap.size wr w1 := below_on hb1 (below_of_drewN wr 1)
                  have HO1 := Lib.hid hO1
                  have kA1 := Blk.by hb1' kA
                  have kB1 := Blk.by hb1' kB
                  have hb1w := below_on hb1' hbw
                  have HRR1 := Lib.hid (HRR.out.by hb1')
                  clear hO1 hb1 hb1' kA kB qA qB lA lB hS
                  have hS := And.intro kA1 kB1
                  refine hK.out _ _ (fun _ => hS) ?_
                  try simp only [Act.put, List.setIfInBounds_toArray, List.set_cons_zero, List.set_cons_succ]
                  refine wpAnyE_oneL (k := 5) (by kernel_rfl) rfl (fun K hK => ?_)
                  go_simp
                  go_at_call 145
                  refine (HI2.out (rigTo n nets m) _ _ _ (HNB.out.by hb1w) HRR1.out (by rw [HRF.out]; exact HDY.out)).mono ?_
                  rintro e w2 ⟨v2, rfl, hO2, hb2⟩
                  obtain ⟨g2, k2, rfl⟩ := hO2.sl.sized
                  have HO1' := Lib.hid (HO1.out.by hb2).sl
                  have HO2 := Lib.hid hO2.sl
                  have kA2 := Blk.by hb2 kA1
                  have kB2 := Blk.by hb2 kB1
                  have hb2w := below_on hb2 hb1w
                  have hlen1 : (innerS x.ds (lefTo n m)).length ≤ 1000 := by
                    have h1 := innTo_len x.ds (lefTo n m) x.ds.length
                    have h2 := HL1.out
                    rw [← innTo_all, length_srtD]
                    omega
                  have hlen2 : (innerS y.ds (rigTo n nets m)).length ≤ 1000 := by
                    have h1 := innTo_len y.ds (rigTo n nets m) y.ds.length
                    have h2 := HL2.out
                    rw [← innTo_all, length_srtD]
                    omega
                  clear hO2 hb2 HO1 kA1 kB1 hb1w HRR1 hS
                  have hS := And.intro kA2 kB2
                  refine hK.out _ _ (fun _ => hS) ?_
                  try simp only [Act.put, List.setIfInBounds_toArray, List.set_cons_zero, List.set_cons_succ]
                  refine wpAnyE_oneL (k := 6) (by kernel_rfl) rfl (fun K hK => ?_)
                  go_simp
                  go_at_call 144
                  refine (HEQ.out _ _ _ _ _ HO1'.out HO2.out hlen1 hlen2).mono ?_
                  rintro e w3 ⟨rfl, hb3⟩
                  have hb3w := below_on hb3 hb2w
                  have hS3 := And.intro (Blk.by hb3 kA2) (Blk.by hb3 kB2)
                  clear hS
                  refine hK.out _ _ (fun _ => hS3) ?_
                  try simp only [Act.put, List.setIfInBounds_toArray, List.set_cons_zero, List.set_cons_succ]
                  refine wpAnyE_oneL (k := 7) (by kernel_rfl) rfl (fun K hK => ?_)
                  go_simp
                  refine hK.out _ _ (fun h => absurd rfl h) ?_
                  refine wpAnyE_done (by kernel_rfl) ?_ _
                  clear hS3 kA2 kB2 hlen1 hlen2
                  go_wp2
                  go_ret
                  exact ⟨by rfl, hb3w⟩
def OutL (w : World) (r lo hi : Nat) (v : Value) (ls : List (List Int)) : Prop := hi ≤ w.heap.size ∧ ∃ (vs : List Value) (f : Nat → Nat), w.ownsRow lo 27 1 v ls.length vs ∧ vs.length = ls.length ∧ (∀ g, v.ownBlock = some g → lo ≤ g ∧ g < hi) ∧
  (∀ i x s, ls[i]? = some x → vs[i]? = some s → OwnR w (f i) (f i + 1) s x ∧ (r ≤ f i ∧ f i < w.heap.size) ∧ v.ownBlock ≠ some (f i))
section
variable {w w' : World} {r lo hi : Nat} {v : Value} {ls : List (List Int)}
theorem OutL.by (hb : Below w.heap.size w w') (h : OutL w r lo hi v ls) : OutL w' r lo hi v ls := by
  obtain ⟨hs, vs, f, h1, h2, h3, h4⟩ := h
  have hsz := hb.size
  refine ⟨Nat.le_trans hs hb.size, vs, f, row_same h1 (fun g hg => hb.block g (by have := h3 g hg; omega)), h2, h3, fun i x s hx hp => ?_⟩
  obtain ⟨a, b, c⟩ := h4 i x s hx hp
  exact ⟨OwnR.by hb a, by omega, c⟩
theorem OutL.sized (h : OutL w r lo hi v ls) : ∃ a c, v = .slice a ls.length c := by
  obtain ⟨_, vs, f, ⟨_, h1⟩, _⟩ := h
  rcases h1 with ⟨h1, h2⟩ | ⟨g, cap, cur, e1, _⟩
  · exact ⟨none, 0, by rw [h1, h2]⟩
  · exact ⟨_, _, e1⟩
theorem OutL.lit {g : Nat} (h : Blk w g #[] 27) (hlo : lo ≤ g) (hhi : g < hi) (hs : hi ≤ w.heap.size) : OutL w r lo hi (.slice (some ⟨g, 0, none⟩) 0 0) [] :=
  ⟨hs, [], fun _ => 0, ⟨rfl, .inr ⟨g, 0, #[], rfl, hlo, h, Nat.le_refl _, by unfold maxLen; omega, rfl, rfl⟩⟩, rfl, (fun g' hg' => by
    have e : g = g' := by injection hg'
    omega), by intro i x s h; simp at h⟩
theorem OutL.ll (h : OutL w r lo hi v ls) : LlSl w v ls := by
  obtain ⟨hs, vs, f, ⟨hlen, h1⟩, h2, h3, h4⟩ := h
  rcases h1 with ⟨h1, hn⟩ | ⟨g, cap, cur, e1, e2, e3, e4, e5, e6, e7⟩
  · exact .inl ⟨_, _, h1, List.eq_nil_of_length_eq_zero hn⟩
  · refine .inr ⟨g, 0, cap, e1, e4, e5, fun i x hx => ?_⟩
    have hi' : i < ls.length := (List.getElem?_eq_some_iff.1 hx).1
    obtain ⟨s, hsv⟩ : ∃ s, vs[i]? = some s := ⟨vs[i]'(by omega), List.getElem?_eq_getElem (by omega)⟩
    have h6 := hsv
    rw [← e7, List.getElem?_take_of_lt (by omega)] at h6
    have hB : Blk w g cur 27 := e3
    refine ⟨s, ?_, (h4 i x s hx hsv).1.sl⟩
    rw [Nat.zero_add, hB.cell]
    simpa using h6
theorem OutL.low {r' : Nat} (h : OutL w r lo hi v ls) (hr : r' ≤ r) : OutL w r' lo hi v ls := by
  obtain ⟨hs, vs, f, h1, h2, h3, h4⟩ := h
  exact ⟨hs, vs, f, h1, h2, h3, fun i x s hx hp => by
    obtain ⟨a, b, c⟩ := h4 i x s hx hp
    exact ⟨a, by omega, c⟩⟩
end
theorem step_appO {ops : Array Oper} {o : Oper} {a : Act} {w : World} {K : Act → World → Prop} {Q : Exit → Act → World → Prop} {E : Prop} (hgd : o.guard = none) (s x : Operand)
    (ho : o.op = .call { callee := .builtin .append, args := #[s, x], argTypes := #[87, 87] })
    (r lo hi : Nat) (v : Value) (ls l2 : List (List Int)) (hs : a.eval s = v) (hB : OutL w r lo hi v ls) (nb cap2 : Nat) (v2s : List Value) (f2 : Nat → Nat) (hx : a.eval x = .slice (some ⟨nb, 0, none⟩) l2.length cap2)
    (hnews : ∀ j u, v2s[j]? = some u → w.cell? ((⟨nb, 0, none⟩ : Addr).add j) = some u) (r2 : v2s.length = l2.length)
    (hr2 : ∀ i y u, l2[i]? = some y → v2s[i]? = some u → OwnR w (f2 i) (f2 i + 1) u y ∧ (r ≤ f2 i ∧ f2 i < w.heap.size) ∧ (f2 i < lo ∨ hi ≤ f2 i)) (h0 : 0 < l2.length) (hlo : lo ≤ hi) (hn : ls.length + l2.length ≤ 4000000)
    (hK : ∀ g c' w', OutL w' r lo w'.heap.size (.slice (some ⟨g, 0, none⟩) (ls.length + l2.length) c') (ls ++ l2) → Within lo hi w w' → K (a.put o.dst (.slice (some ⟨g, 0, none⟩) (ls.length + l2.length) c')) w') :
    if Region.wanted o (yielded ops a.tmps) = true then Oper.wp Tryz.prog o a w K Q else E := by
  obtain ⟨i0, hi0, hz0, hz1, hz2⟩ := info_parts infoL
  obtain ⟨hsz, vs, f, h1, h2, h3, h4⟩ := hB
  refine step_append_lies w hgd s x 87 ho lo 27 i0 _ 1 24 Tryz.underlying87 hi0 hz0 hz1 hz2 rfl (by decide) v ls.length _ hs h1 ⟨nb, 0, none⟩ l2.length cap2 v2s hx (by rw [r2, Nat.mul_one]) hnews ?_ h0 (by unfold maxLen; omega) (by omega) (by omega) w.heap.size rfl ?_
  · intro u hu
    obtain ⟨i, hi', e⟩ := List.mem_iff_getElem.1 hu
    exact (hr2 i (l2[i]'(by omega)) u (List.getElem?_eq_getElem _) (by rw [List.getElem?_eq_getElem hi', e])).1.sl.one
  · intro g cap w' hrow hgrow hg hgl
    have hW : Within lo hi w w' := grown_within hgrow h3
    have hsz' := hgrow.size
    refine hK g cap w' ⟨Nat.le_refl _, vs ++ v2s, fun i => if i < ls.length then f i else f2 (i - ls.length), ?_, by simp [h2, r2], ?_, ?_⟩ hW
    · rw [List.length_append]; exact hrow
    · intro g' hg'
      have : g = g' := by injection hg'
      subst this
      rcases hg with h | h
      · have := h3 g h; omega
      · omega
    · intro i y pv' hy hp'
      by_cases hi' : i < ls.length
      · rw [List.getElem?_append_left hi'] at hy
        rw [List.getElem?_append_left (by omega)] at hp'
        obtain ⟨a1, b1, c1⟩ := h4 i y pv' hy hp'
        simp only [if_pos hi']
        have hsep : ∀ g0, v.ownBlock = some g0 → g0 ≠ f i := fun g0 e1 e2 => c1 (by rw [e1, e2])
        refine ⟨?_, by omega, ?_⟩
        · cases hv : v.ownBlock with
          | none => exact OwnR.by ⟨hgrow.os, hgrow.tape, hgrow.output, hgrow.size, fun k hk => hgrow.block k hk (by rw [hv]; simp)⟩ a1
          | some g0 => exact OwnR.past (grown_within (lo := g0) (hi := g0 + 1) hgrow (fun g1 e => by rw [hv] at e; cases e; omega)) a1 (by have := hsep g0 hv; omega)
        · intro e
          have : g = f i := by injection e
          rcases hg with h | h
          · exact hsep g h this
          · omega
      · rw [List.getElem?_append_right (by omega)] at hy
        rw [List.getElem?_append_right (by omega), h2] at hp'
        obtain ⟨a1, b1, c1⟩ := hr2 _ y pv' hy hp'
        simp only [if_neg hi']
        refine ⟨OwnR.past hW a1 (by omega), by omega, ?_⟩
        intro e
        have : g = f2 (i - ls.length) := by injection e
        rcases hg with h | h
        · have := h3 g h; omega
        · omega
theorem list_pushO {ops : Array Oper} {rest : List Oper} {o : Oper} {a : Act} {w : World} {Q : Exit → Act → World → Prop} (hgd : o.guard = none) (s x : Operand)
    (ho : o.op = .call { callee := .builtin .append, args := #[s, x], argTypes := #[87, 87] })
    (r lo hi : Nat) (v : Value) (ls : List (List Int)) (hs : a.eval s = v) (hB : OutL w r lo hi v ls) (nb : Nat) (d : List Int) (pv : Value) (fb : Nat) (hx : a.eval x = .slice (some ⟨nb, 0, none⟩) 1 1)
    (hnb : Blk w nb #[pv] 27) (hpv : OwnR w fb (fb + 1) pv d) (hlo : lo ≤ hi) (hfr : r ≤ fb) (hfb : fb < w.heap.size) (hfs : fb < lo ∨ hi ≤ fb) (hn : ls.length ≤ 3000000)
    (hK : ∀ g c' w', OutL w' r lo w'.heap.size (.slice (some ⟨g, 0, none⟩) (ls.length + 1) c') (ls ++ [d]) → Within lo hi w w' → wpList Tryz.prog ops Q rest (a.put o.dst (.slice (some ⟨g, 0, none⟩) (ls.length + 1) c')) w') : wpList Tryz.prog ops Q (o :: rest) a w :=
  wpList_plain hgd fun K hk => by
    have h := step_appO (ops := ops) (K := K) (Q := Q) (E := False) hgd s x ho r lo hi v ls [d] hs hB nb 1 [pv] (fun _ => fb) hx (World.news_of_block (cs := #[pv]) hnb) rfl (fun i y u hy hu => by
      have hi' : i < 1 := (List.getElem?_eq_some_iff.1 hy).1
      obtain rfl : i = 0 := by omega
      simp at hy hu
      subst hy hu
      exact ⟨hpv, ⟨hfr, hfb⟩, hfs⟩) (by simp) hlo (by simp; omega) (fun a' c' w' h1 h2 => hk _ _ (hK a' c' w' h1 h2))
    rwa [if_pos (by simp [Region.wanted, hgd])] at h
theorem OutL.wide {w : World} {r lo hi : Nat} {v : Value} {ls : List (List Int)} (h : OutL w r lo hi v ls) : OutL w r lo w.heap.size v ls := by
  obtain ⟨hs, vs, f, h1, h2, h3, h4⟩ := h
  exact ⟨Nat.le_refl _, vs, f, h1, h2, fun g hg => by have := h3 g hg; omega, h4⟩
theorem step_appP {ops : Array Oper} {o : Oper} {a : Act} {w : World} {K : Act → World → Prop} {Q : Exit → Act → World → Prop} {E : Prop} (hgd : o.guard = none) (s x : Operand)
    (ho : o.op = .call { callee := .builtin .append, args := #[s, x], argTypes := #[87, 87] })
    (r lo hi g0 n0 c0 : Nat) (ls l2 : List (List Int)) (hs : a.eval s = .slice (some ⟨g0, 0, none⟩) n0 c0) (hB : OutL w r lo hi (.slice (some ⟨g0, 0, none⟩) n0 c0) ls) (hn0 : ls.length = n0) (rr lo2 hi2 m0 : Nat) (v2 : Value) (hx : a.eval x = v2) (hB2 : OutL w rr lo2 hi2 v2 l2) (hm0 : l2.length = m0) (hrr : r ≤ rr) (hh : hi ≤ rr) (hlo : lo ≤ hi) (hn : n0 + m0 ≤ 4000000)
    (hK : ∀ g c' w', OutL w' r lo w'.heap.size (.slice (some ⟨g, 0, none⟩) (n0 + m0) c') (ls ++ l2) → Within lo hi w w' → K (a.put o.dst (.slice (some ⟨g, 0, none⟩) (n0 + m0) c')) w') :
    if Region.wanted o (yielded ops a.tmps) = true then Oper.wp Tryz.prog o a w K Q else E := by
  subst hn0 hm0
  rcases Nat.eq_zero_or_pos l2.length with h0 | h0
  · obtain ⟨a2, c2, rfl⟩ := hB2.sized
    have hl2 : l2 = [] := List.eq_nil_of_length_eq_zero h0
    subst hl2
    have hcap : ls.length ≤ c0 := by
      obtain ⟨_, vs, f, ⟨_, h1⟩, _⟩ := hB
      rcases h1 with ⟨h1, _⟩ | ⟨g, cap, cur, e1, e2, e3, e4, _⟩
      · cases h1
      · simp only [Value.slice.injEq] at e1
        omega
    have hw : Region.wanted o (yielded ops a.tmps) = true := by simp [Region.wanted, hgd]
    rw [if_pos hw]
    have hr := run_append_zero g0 ls.length c0 a2 c2 o.type hcap w
    have hx' : a.eval x = .slice a2 0 c2 := hx
    unfold Oper.wp execOp
    simp only [ho, resolve, invoke, builtin, Sem.run_bind, Sem.run_pure, Result.andThen_ok, List.map_toArray, List.map_cons, List.map_nil, hs, hx', hr]
    have hk := hK g0 c0 w (by rw [List.append_nil]; exact hB.wide) (Within.refl _ _ _)
    exact hk
  · obtain ⟨hsz2, v2s, f2, ⟨_, r1⟩, r2, r3, r4⟩ := hB2
    rcases r1 with ⟨_, r5⟩ | ⟨b, cap2, cur, rfl, r5, r6, r7, r8, r9, r10⟩
    · omega
    simp only [Nat.mul_one] at r10
    exact step_appO (ops := ops) (K := K) (Q := Q) (E := E) hgd s x ho r lo hi _ ls l2 hs hB b cap2 v2s f2 hx (fun j u hu => by
        refine World.news_of_block r6 j u ?_
        rw [← r10, List.getElem?_take] at hu
        split at hu
        · exact hu
        · cases hu) r2 (fun i y u hy hu => by
        obtain ⟨q1, q2, q3⟩ := r4 i y u hy hu
        exact ⟨q1, by omega, .inr (by omega)⟩) h0 hlo hn hK
theorem BldI.wideC {w : World} {lo hi : Nat} {v : Value} {zs : List Int} (h : BldI w lo hi v zs) : BldI w lo w.heap.size v zs := by
  obtain ⟨h1, h2, h3⟩ := h
  exact ⟨Nat.le_refl _, h2, fun g hg => by have := h3 g hg; omega⟩
theorem step_catI {ops : Array Oper} {o : Oper} {a : Act} {w : World} {K : Act → World → Prop} {Q : Exit → Act → World → Prop} {E : Prop} (hgd : o.guard = none) (s x : Operand)
    (ho : o.op = .call { callee := .builtin .append, args := #[s, x], argTypes := #[27, 27] })
    (lo hi g0 n0 c0 m0 : Nat) (zs ys : List Int) (hs : a.eval s = .slice (some ⟨g0, 0, none⟩) n0 c0) (hB : BldI w lo hi (.slice (some ⟨g0, 0, none⟩) n0 c0) zs) (hn0 : zs.length = n0) (sv : Value) (hx : a.eval x = sv) (h : IntSl w sv ys) (hm0 : ys.length = m0) (hlo : lo ≤ hi) (hn : n0 + m0 ≤ 8000000)
    (hK : ∀ g c' w', BldI w' lo w'.heap.size (.slice (some ⟨g, 0, none⟩) (n0 + m0) c') (zs ++ ys) → Within lo hi w w' → K (a.put o.dst (.slice (some ⟨g, 0, none⟩) (n0 + m0) c')) w') :
    if Region.wanted o (yielded ops a.tmps) = true then Oper.wp Tryz.prog o a w K Q else E := by
  subst hn0 hm0
  obtain ⟨i0, hi0, hz0, hz1, hz2⟩ := info_parts infoI
  have hcap : zs.length ≤ c0 := by
    obtain ⟨_, ⟨_, h1⟩, _⟩ := hB
    rcases h1 with ⟨h1, _⟩ | ⟨g, cap, cur, e1, e2, e3, e4, _⟩
    · cases h1
    · simp only [Value.slice.injEq] at e1
      omega
  by_cases h0 : ys = []
  · subst h0
    have hS := src_ints h
    have hw : Region.wanted o (yielded ops a.tmps) = true := by simp [Region.wanted, hgd]
    rw [if_pos hw]
    have hr := run_append_room_src (P := Tryz.prog) w 27 27 o.type 2 i0 Tryz.underlying27 hi0 g0 0 zs.length c0 sv 0 [] (by rw [hz1]; exact hS) (by omega) (by simp) (by simp)
    unfold Oper.wp execOp
    simp only [ho, resolve, invoke, builtin, Sem.run_bind, Sem.run_pure, Result.andThen_ok, List.map_toArray, List.map_cons, List.map_nil, hs, hx, hr]
    have hk := hK g0 c0 w (by rw [List.append_nil]; exact hB.wideC) (Within.refl _ _ _)
    exact hk
  · have hl : 0 < ys.length := List.length_pos_iff.2 h0
    obtain ⟨hsz, h1, h3⟩ := hB
    rcases h with ⟨_, _, _, e2⟩ | ⟨b, off, cap, rfl, q2, q3, q4⟩
    · exact absurd e2 h0
    refine step_append_lies w hgd s x 27 ho lo 2 i0 _ 1 8 Tryz.underlying27 hi0 hz0 hz1 hz2 rfl (by decide) _ zs.length _ hs h1 ⟨b, off, none⟩ ys.length cap (icells ys) hx (by simp [icells]) ?_ ?_ hl (by unfold maxLen; omega) (by omega) (by omega) w.heap.size rfl ?_
    · intro j u hu
      simp only [icells, List.getElem?_map, Option.map_eq_some_iff] at hu
      obtain ⟨z, hz, rfl⟩ := hu
      rw [Addr.add_lit]
      exact q4 j z hz
    · intro u hu
      simp only [icells, List.mem_map] at hu
      obtain ⟨_, _, rfl⟩ := hu
      rfl
    · intro g cap' w' hrow hgrow hg hgl
      have hW : Within lo hi w w' := grown_within hgrow h3
      refine hK g cap' w' ⟨Nat.le_refl _, ?_, ?_⟩ hW
      · rw [List.length_append, icells_push]; exact hrow
      · intro g' hg'
        have : g = g' := by injection hg'
        subst this
        rcases hg with h | h
        · have := h3 g h; omega
        · omega
theorem nm_map {p r : List Int} {k : Int} (h0 : 0 ≤ k) (h1 : k < p.length) : nmOf (p.map (nmOf r)) k = nmOf r (nmOf p k) := by
  have e := nm_get (zs := p) (i := k.toNat) (by omega)
  rw [Int.toNat_of_nonneg h0] at e
  conv => lhs; unfold nmOf
  rw [List.getD_eq_getElem?_getD, List.getElem?_map, e]; rfl
theorem nm_inv {zs : List Int} {n : Int} (hp : permB zs n = true) {i : Int} (h0 : 0 ≤ i) (h1 : i < n) : nmOf (invS zs) (nmOf zs i) = i := by
  have hl := (permB_iff.1 hp).1
  have e := thru_inv hp
  rw [show thruS zs (invS zs) = zs.map (nmOf (invS zs)) from rfl] at e
  rw [← nm_map h0 (by omega), e]
  unfold nmOf
  rw [List.getD_eq_getElem?_getD, iota_get _ _ (by omega)]
  show ((i.toNat : Nat) : Int) = i
  omega
theorem nm_inv' {zs : List Int} {n : Int} (hp : permB zs n = true) {i : Int} (h0 : 0 ≤ i) (h1 : i < n) : nmOf zs (nmOf (invS zs) i) = i := by
  have hl := (permB_iff.1 hp).1
  have e := inv_thru hp
  rw [show thruS (invS zs) zs = (invS zs).map (nmOf zs) from rfl] at e
  rw [← nm_map h0 (by rw [length_invS]; omega), e]
  unfold nmOf
  rw [List.getD_eq_getElem?_getD, iota_get _ _ (by omega)]
  show ((i.toNat : Nat) : Int) = i
  omega
theorem map_perm {zs ys : List Int} {n : Int} (hp : permB zs n = true) (hq : permB ys n = true) : permB (zs.map (nmOf ys)) n = true := by
  obtain ⟨a, b, c⟩ := permB_iff.1 hp
  refine permB_iff.2 ⟨by rw [List.length_map]; exact a, ?_, fun z hz => ?_⟩
  · have h : ∀ (l : List Int), (∀ z ∈ l, 0 ≤ z ∧ z < n) → l.Nodup → (l.map (nmOf ys)).Nodup := by
      intro l
      induction l with
      | nil => simp
      | cons u l ih =>
        intro hr hn
        rw [List.map_cons, List.nodup_cons]
        rw [List.nodup_cons] at hn
        refine ⟨fun hm => ?_, ih (fun z hz => hr z (by simp [hz])) hn.2⟩
        obtain ⟨v, hv, e⟩ := List.mem_map.1 hm
        have := nmP_inj hq (hr v (by simp [hv])) (hr u (by simp)) e
        subst this
        exact hn.1 hv
    exact h zs c b
  · obtain ⟨u, hu, rfl⟩ := List.mem_map.1 hz
    exact (nmP hq (c u hu).1 (c u hu).2).2
theorem ren_ren {p r : List Int} {d : Dv} (h : ∀ k ∈ d.pins, 0 ≤ k ∧ k < p.length) : renD (p.map (nmOf r)) d = renD r (renD p d) := by
  obtain ⟨kd, ps, wd, ln⟩ := d
  unfold renD
  dsimp only at h ⊢
  rw [List.map_map]
  congr 1
  exact List.map_congr_left (fun k hk => nm_map (h k hk).1 (h k hk).2)
section
variable {x y z : Nl} {p q r s : List Int}
theorem NlIso.trans (H : NlIso x y p q) (K : NlIso y z r s) (hx : nlB x = true) (hy : nlB y = true) (hz : nlB z = true) : NlIso x z (p.map (nmOf r)) (q.map (nmOf s)) := by
  obtain ⟨_, _, _, hdx, _⟩ := nlB_facts hx
  obtain ⟨_, _, _, hdy, _⟩ := nlB_facts hy
  obtain ⟨_, _, _, hdz, _⟩ := nlB_facts hz
  have hpl := (permB_iff.1 H.pp).1
  have hql := (permB_iff.1 H.pq).1
  have k1 := K.pp
  rw [H.nets] at k1
  have k2 := K.pq
  rw [H.len] at k2
  refine ⟨map_perm H.pp k1, map_perm H.pq k2, K.nets.trans H.nets, K.len.trans H.len, fun i d hd => ?_, K.plen.trans H.plen, fun i a ha => ?_⟩
  · have hi := (List.getElem?_eq_some_iff.1 hd).1
    obtain ⟨e, he, h1⟩ := H.dev i d hd
    obtain ⟨hq0, hq1⟩ := (nmP H.pq (i := (i : Int)) (by omega) (by omega)).2
    obtain ⟨f, hf, h2⟩ := K.dev _ e he
    rw [Int.toNat_of_nonneg hq0] at hf
    refine ⟨f, by rw [nm_map (by omega) (by omega)]; exact hf, ?_⟩
    have t1 := dvB_Two (hdx d (List.mem_of_getElem? hd))
    have t2 := dvB_Two (hdy e (List.mem_of_getElem? he))
    have t3 := dvB_Two (hdz f (List.mem_of_getElem? hf))
    refine (nz_eqv t1 t3).1 ?_
    rw [ren_ren (fun k hk => by have := dvB_in (hdx d (List.mem_of_getElem? hd)) hk; omega), ← nz_ren r (t1.ren p), (nz_eqv t1 t2).2 h1, nz_ren r t2, (nz_eqv t2 t3).2 h2]
  · obtain ⟨b, hb, n1, m1⟩ := H.port i a ha
    obtain ⟨c, hc, n2, m2⟩ := K.port i b hb
    have := pt_in hx (List.mem_of_getElem? ha)
    exact ⟨c, hc, n2.trans n1, by rw [m2, m1, nm_map this.1 (by omega)]⟩
theorem NlIso.symm (H : NlIso x y p q) (hx : nlB x = true) (hy : nlB y = true) : NlIso y x (invS p) (invS q) := by
  obtain ⟨_, _, _, hdx, _⟩ := nlB_facts hx
  obtain ⟨_, _, _, hdy, _⟩ := nlB_facts hy
  have hpl := (permB_iff.1 H.pp).1
  have hql := (permB_iff.1 H.pq).1
  have i1 := permB_invS H.pp
  have i2 := permB_invS H.pq
  refine ⟨by rw [H.nets]; exact i1, by rw [H.len]; exact i2, H.nets.symm, H.len.symm, fun j e he => ?_, H.plen.symm, fun j b hb => ?_⟩
  · have hj := (List.getElem?_eq_some_iff.1 he).1
    rw [H.len] at hj
    obtain ⟨h0, h1⟩ := (nmP i2 (i := (j : Int)) (by omega) (by omega)).2
    have hback := nm_inv' H.pq (i := (j : Int)) (by omega) (by omega)
    obtain ⟨i, hi⟩ : ∃ i : Nat, nmOf (invS q) (j : Int) = i := ⟨_, (Int.toNat_of_nonneg h0).symm⟩
    rw [hi] at hback h1
    have hd : x.ds[i]? = some (x.ds[i]'(by omega)) := List.getElem?_eq_getElem (by omega)
    obtain ⟨e', he', hv⟩ := H.dev i _ hd
    rw [hback, Int.toNat_natCast, he] at he'
    obtain rfl := Option.some.inj he'
    refine ⟨_, by rw [hi, Int.toNat_natCast]; exact hd, ?_⟩
    have t1 := dvB_Two (hdx _ (List.mem_of_getElem? hd))
    have t2 := dvB_Two (hdy e (List.mem_of_getElem? he))
    refine (nz_eqv t2 t1).1 ?_
    rw [← nz_ren _ t2, ← (nz_eqv t1 t2).2 hv, nz_ren _ (t1.ren p), ← ren_ren (fun k hk => by have := dvB_in (hdx _ (List.mem_of_getElem? hd)) hk; omega)]
    have : renD (p.map (nmOf (invS p))) (x.ds[i]'(by omega)) = x.ds[i]'(by omega) := by
      have hin : ∀ k ∈ (x.ds[i]'(by omega)).pins, nmOf (p.map (nmOf (invS p))) k = k := fun k hk => by
        have := dvB_in (hdx _ (List.mem_of_getElem? hd)) hk
        rw [nm_map this.1 (by omega), nm_inv H.pp this.1 this.2]
      generalize x.ds[i]'(by omega) = d at hin ⊢
      obtain ⟨kd, ps, wd, ln⟩ := d
      unfold renD
      dsimp only at hin ⊢
      rw [List.map_congr_left (g := id) hin, List.map_id]
    rw [this]
  · have hj := (List.getElem?_eq_some_iff.1 hb).1
    have ha : x.ps[j]? = some (x.ps[j]'(by rw [← H.plen]; exact hj)) := List.getElem?_eq_getElem _
    obtain ⟨b', hb', n1, m1⟩ := H.port j _ ha
    rw [hb] at hb'
    obtain rfl := Option.some.inj hb'
    have := pt_in hx (List.mem_of_getElem? ha)
    exact ⟨_, ha, n1.symm, by rw [m1, nm_inv H.pp this.1 this.2]⟩
theorem NlIso.self (hx : nlB x = true) : NlIso x x (iota x.nets.toNat) (iota x.ds.length) := by
  obtain ⟨⟨n0, n1⟩, _, _, hdx, _⟩ := nlB_facts hx
  have hp : ∀ n : Nat, permB (iota n) (n : Int) = true := fun n => permB_iff.2 ⟨by rw [length_iota], by
    unfold iota
    exact List.Pairwise.map _ (fun a b h e => h (by omega)) List.nodup_range, fun z hz => by
    unfold iota at hz
    obtain ⟨i, hi, rfl⟩ := List.mem_map.1 hz
    rw [List.mem_range] at hi; omega⟩
  have hn : ∀ (n : Nat) (k : Int), 0 ≤ k → k < n → nmOf (iota n) k = k := fun n k h0 h1 => by
    unfold nmOf
    rw [List.getD_eq_getElem?_getD, iota_get _ _ (by omega)]
    show ((k.toNat : Nat) : Int) = k
    omega
  refine ⟨by have := hp x.nets.toNat; rwa [Int.toNat_of_nonneg n0] at this, hp _, rfl, rfl, fun i d hd => ?_, rfl, fun i a ha => ?_⟩
  · have hi := (List.getElem?_eq_some_iff.1 hd).1
    refine ⟨d, by rw [hn _ _ (by omega) (by omega)]; exact hd, rfl, rfl, rfl, .inl ?_⟩
    rw [List.map_congr_left (g := id) (fun k hk => ?_), List.map_id]
    have := dvB_in (hdx d (List.mem_of_getElem? hd)) hk
    exact hn _ k this.1 (by omega)
  · have := pt_in hx (List.mem_of_getElem? ha)
    exact ⟨a, ha, rfl, (hn _ _ this.1 (by omega)).symm⟩
end
noncomputable def autN (x : Nl) : Nat := (srchS x x false).length
def wayR : List Dv → Nat
  | [] => 1
  | a :: l => (l.count a + 1) * wayR l
def wayTo (ds : List Dv) (k : Nat) : Nat := wayR ((ds.map nzD).take k).reverse
theorem wayTo_step (ds : List Dv) (k : Nat) (d : Dv) (h : ds[k]? = some d) : wayTo ds (k + 1) = (((ds.take k).map nzD).count (nzD d) + 1) * wayTo ds k := by
  unfold wayTo
  rw [take_snoc_of (ds.map nzD) k (nzD d) (by rw [List.getElem?_map, h]; rfl), List.reverse_append]
  show ((((ds.map nzD).take k).reverse).count (nzD d) + 1) * wayR (((ds.map nzD).take k).reverse) = _
  rw [List.count_reverse, List.map_take]
theorem srTo_len {g : Nat → List (List Int)} {one : Bool} {m : Nat} (hg : ∀ k, (g k).length ≤ m) : ∀ n : Nat, (srTo g one n).length ≤ n * m
  | 0 => by simp [srTo]
  | n + 1 => by
    have := srTo_len (one := one) hg n
    have := hg n
    unfold srTo
    split
    · rw [Nat.add_mul]; omega
    · rw [List.length_append, Nat.add_mul]; omega
theorem srch_len {fit : List Int → Bool} {col : Nat → Nat → Bool} {n : Nat} {one : Bool} : ∀ (r : Nat) (nets : List Int), (srch fit col n one r nets).length ≤ n ^ r
  | 0, nets => by simp [srch]
  | r + 1, nets => by
    have := srTo_len (g := fun k => if (col nets.length k && (!nets.contains (k : Int) && fit (nets ++ [(k : Int)]))) = true then srch fit col n one r (nets ++ [(k : Int)]) else []) (one := one) (m := n ^ r) (fun k => by
      (try dsimp only)
      split
      · exact srch_len r _
      · simp) n
    rw [Nat.pow_succ, Nat.mul_comm]
    exact this
theorem wayR_le : ∀ (l : List Dv), l.length ≤ 10 → 1 ≤ wayR l ∧ wayR l ≤ 10 ^ l.length
  | [], _ => by simp [wayR]
  | a :: l, h => by
    rw [List.length_cons] at h ⊢
    obtain ⟨h1, h2⟩ := wayR_le l (by omega)
    have h3 : l.count a ≤ l.length := List.count_le_length
    constructor
    · show 1 ≤ (_ + 1) * _
      exact Nat.le_trans h1 (Nat.le_mul_of_pos_left _ (by omega))
    · show (_ + 1) * _ ≤ _
      rw [Nat.pow_succ, Nat.mul_comm]
      exact Nat.mul_le_mul h2 (by omega)
theorem step_pushIm {ops : Array Oper} {o : Oper} {a : Act} {w : World} {K : Act → World → Prop} {Q : Exit → Act → World → Prop} {E : Prop} (hgd : o.guard = none) (s x : Operand)
    (ho : o.op = .call { callee := .builtin .append, args := #[s, x], argTypes := #[27, 27] })
    (lo hi N : Nat) {v : Value} (zs ys : List Int) (hN : zs.length = N) (hs : a.eval s = v) (hB : BldI w lo hi v zs) (nb m : Nat) (cs : Array Value) (hx : a.eval x = .slice (some ⟨nb, 0, none⟩) m m) (hys : ys.length = m) (hm : 0 < m)
    (hnb : Blk w nb cs 2) (hcs : cs.toList = icells ys) (hlo : lo ≤ hi) (hn : N + m ≤ 8000000)
    (hK : ∀ a' c' w', BldI w' lo w'.heap.size (.slice a' (N + m) c') (zs ++ ys) → Within lo hi w w' → K (a.put o.dst (.slice a' (N + m) c')) w') :
    if Region.wanted o (yielded ops a.tmps) = true then Oper.wp Tryz.prog o a w K Q else E := by
  subst hN
  exact step_pushI hgd s x ho lo hi v zs ys hs hB nb m cs hx hys hm hnb hcs hlo hn hK
theorem srcB_one {x y : Nl} {col : Nat → Nat → Bool} {n r : Nat} {one : Bool} {nets : List Int} (h : one = true) : (srcB x y col n one r nets).length ≤ 1 := by
  unfold srcB
  split
  · exact srch_one h _ _
  · simp
theorem srcB_len {x y : Nl} {col : Nat → Nat → Bool} {n r : Nat} {one : Bool} {nets : List Int} : (srcB x y col n one r nets).length ≤ n ^ r := by
  unfold srcB
  split
  · exact srch_len _ _
  · simp
theorem sea_bound {x y : Nl} {col : Nat → Nat → Bool} {n r m : Nat} {one : Bool} {nets : List Int} (hb : one = true ∨ n ≤ 7) (hr : r + 1 ≤ n) (k : Nat) (hk : k ≤ n) :
    (srTo (fun k => if (col m k && !nets.contains (k : Int)) = true then srcB x y col n one r (nets ++ [(k : Int)]) else []) one k).length ≤ 900000 ∧
    ((fun k : Nat => if (col m k && !nets.contains (k : Int)) = true then srcB x y col n one r (nets ++ [(k : Int)]) else []) k).length ≤ 900000 := by
  rcases hb with h | h
  · have hg : ∀ k, ((fun k : Nat => if (col m k && !nets.contains (k : Int)) = true then srcB x y col n one r (nets ++ [(k : Int)]) else []) k).length ≤ 1 := fun k => by
      dsimp only
      split
      · exact srcB_one h
      · simp
    have := srTo_one (one := one) h hg k
    have := hg k
    exact ⟨by omega, by omega⟩
  · have hg : ∀ k, ((fun k : Nat => if (col m k && !nets.contains (k : Int)) = true then srcB x y col n one r (nets ++ [(k : Int)]) else []) k).length ≤ n ^ r := fun k => by
      dsimp only
      split
      · exact srcB_len
      · simp
    have h1 := srTo_len (one := one) hg k
    have h2 := hg k
    have h3 : n ^ r ≤ 7 ^ r := Nat.pow_le_pow_left h r
    have h4 : 7 ^ r ≤ 7 ^ 6 := Nat.pow_le_pow_right (by omega) (by omega)
    have h5 : k * n ^ r ≤ 7 * 7 ^ 6 := Nat.mul_le_mul (by omega) (by omega)
    have e6 : (7 : Nat) ^ 6 = 117649 := by decide
    rw [e6] at h4 h5
    exact ⟨by omega, by omega⟩
theorem contains_step {zs : List Int} {i : Nat} {z : Int} (h : zs[i]? = some z) (k : Int) : (zs.take (i + 1)).contains k = ((zs.take i).contains k || (z == k)) := by
  rw [take_snoc_of zs i z h]
  by_cases h1 : k ∈ zs.take i
  · have a1 : (zs.take i).contains k = true := by simpa using h1
    have a2 : (zs.take i ++ [z]).contains k = true := by
      rw [List.contains_eq_mem]
      exact decide_eq_true (List.mem_append.2 (.inl h1))
    rw [a1, a2]; rfl
  · have a1 : (zs.take i).contains k = false := by simpa using h1
    rw [a1, Bool.false_or]
    by_cases h2 : z = k
    · have a2 : (zs.take i ++ [z]).contains k = true := by
        rw [List.contains_eq_mem]
        exact decide_eq_true (List.mem_append.2 (.inr (by rw [h2]; simp)))
      rw [a2]; simp [h2]
    · have a2 : (zs.take i ++ [z]).contains k = false := by
        rw [List.contains_eq_mem]
        exact decide_eq_false (fun h => by
          rcases List.mem_append.1 h with h | h
          · exact h1 h
          · rw [List.mem_singleton] at h; exact h2 h.symm)
      rw [a2]; symm; simpa using h2
def SeaOk (x y : Nl) (cx cy : List Int) (one : Bool) (n r : Nat) : Prop := ∀ (nets : List Int) (v u sx sy sn : Value) (fb : Nat) (w : World), NlV w v x → NlV w u y → IntSl w sx cx → IntSl w sy cy → OwnR w fb (fb + 1) sn nets → fb < w.heap.size → goodN n nets → nets.length + r = n →
  Calls Tryz.prog 58 #[v, u, sx, sy, sn, .bool one] w fun e w' => ∃ v', e = .returned v' ∧ ∃ lo, w.heap.size ≤ lo ∧ OutL w' fb lo w'.heap.size v' (srcB x y (colB cx cy) n one r nets) ∧ Below w.heap.size w w'
set_option maxRecDepth 100000 in
set_option maxHeartbeats 16000000 in
theorem sea_step (x y : Nl) (cx cy : List Int) (one : Bool) (n : Nat) (hx : nlB x = true) (hy : nlB y = true) (hxy : y.nets = x.nets) (hpl : y.ps.length = x.ps.length) (hnn : x.nets = n) (hcx : cx.length = n) (hcy : cy.length = n) (hb7 : one = true ∨ n ≤ 7)
    (r : Nat) (ih : ∀ q, r = q + 1 → SeaOk x y cx cy one n q) : SeaOk x y cx cy one n r := by
  intro nets v u sx sy sn fb w hv hu hsx hsy hsn hfb hg hl
  have hnt : x.nets.toNat = n := by omega
  have HFT := Lib.hid (fun v u sn w h h' hn => l30Fits_any x y nets v u sn w h h' hn hx hy hxy hpl (by rw [hnt]; exact hg))
  have hn24 : n ≤ 24 := by have := (nlB_facts hx).1; omega
  have HV := Lib.hid hv
  have HU := Lib.hid hu
  have HCX := Lib.hid hsx
  have HCY := Lib.hid hsy
  have HSN := Lib.hid hsn
  have HG := Lib.hid hg
  obtain ⟨a1, c1, a2, c2, rfl⟩ := hv.sized
  obtain ⟨b1, d1, b2, d2, rfl⟩ := hu.sized
  obtain ⟨ax, kx, rfl⟩ := hsx.len
  obtain ⟨ay, ky, rfl⟩ := hsy.len
  obtain ⟨an, cn, rfl⟩ := hsn.sl.len
  obtain ⟨p, hp⟩ : ∃ p, x.ps.length = p := ⟨_, rfl⟩
  obtain ⟨p2, hp2⟩ : ∃ p, y.ps.length = p := ⟨_, rfl⟩
  obtain ⟨L1, hL1⟩ : ∃ L, x.ds.length = L := ⟨_, rfl⟩
  obtain ⟨L2, hL2⟩ : ∃ L, y.ds.length = L := ⟨_, rfl⟩
  obtain ⟨m, hm⟩ : ∃ m, nets.length = m := ⟨_, rfl⟩
  rw [hxy] at HU ⊢
  rw [hnn, hp, hL1] at HV
  rw [hnn, hp2, hL2] at HU
  rw [hnn, hp, hL1, hp2, hL2, hcx, hcy, hm]
  rw [hcx] at HCX
  rw [hcy] at HCY
  rw [hm] at HSN hl
  have HML := Lib.hid hm
  obtain ⟨RR, hRR⟩ : ∃ R, srcB x y (colB cx cy) n one r nets = R := ⟨_, rfl⟩
  rw [hRR]
  have HRR := Lib.hid hRR
  clear hRR
  have HLX := Lib.hid hcx
  have HLY := Lib.hid hcy
  have hmn : m ≤ n := by omega
  have kA0 : Blk (((w.alloc (.cells #[.int .i64 (n : Int), .slice a1 L1 c1, .slice a2 p c2] 35)).alloc (.cells #[.int .i64 (n : Int), .slice b1 L2 d1, .slice b2 p2 d2] 35)).alloc (.cells #[] 27)) w.heap.size #[.int .i64 (n : Int), .slice a1 L1 c1, .slice a2 p c2] 35 := ((Blk.new _ rfl).past _).past _
  have kB0 : Blk (((w.alloc (.cells #[.int .i64 (n : Int), .slice a1 L1 c1, .slice a2 p c2] 35)).alloc (.cells #[.int .i64 (n : Int), .slice b1 L2 d1, .slice b2 p2 d2] 35)).alloc (.cells #[] 27)) (w.heap.size + 1) #[.int .i64 (n : Int), .slice b1 L2 d1, .slice b2 p2 d2] 35 := (Blk.new _ (by simp)).past _
  have kG0 : Blk (((w.alloc (.cells #[.int .i64 (n : Int), .slice a1 L1 c1, .slice a2 p c2] 35)).alloc (.cells #[.int .i64 (n : Int), .slice b1 L2 d1, .slice b2 p2 d2] 35)).alloc (.cells #[] 27)) (w.heap.size + 2) #[] 27 := Blk.new _ (by simp)
  have hbW : Below w.heap.size w (((w.alloc (.cells #[.int .i64 (n : Int), .slice a1 L1 c1, .slice a2 p c2] 35)).alloc (.cells #[.int .i64 (n : Int), .slice b1 L2 d1, .slice b2 p2 d2] 35)).alloc (.cells #[] 27)) := (((Below.refl _ w).alloc (Nat.le_refl _) _).alloc (by simp) _).alloc (by simp; omega) _
  clear hv hu hsx hsy hsn hg hp hp2 hL1 hL2 hm hx hy hxy hpl hnn hcx hcy hnt
  have qA := kA0.cell
  have qB := kB0.cell
  have lA := kA0.lt
  have lB := kB0.lt
  go_enter Tryz.func58, Tryz.ntmps58
  go_wp2_with fail
  generalize (((w.alloc (.cells #[.int .i64 (n : Int), .slice a1 L1 c1, .slice a2 p c2] 35)).alloc (.cells #[.int .i64 (n : Int), .slice b1 L2 d1, .slice b2 p2 d2] 35)).alloc (.cells #[] 27)) = w1 at *
  refine (HFT.out _ _ _ _ (HV.out.by hbW) (HU.out.by hbW) (HSN.out.sl.by hbW)).mono ?_
  rintro e w2 ⟨rfl, hb2⟩
  have kA2 := Blk.by hb2 kA0
  have kB2 := Blk.by hb2 kB0
  have kG2 := Blk.by hb2 kG0
  have hb2w := below_on hb2 hbW
  have hsz2 := hb2w.size
  have hl2 := kG2.lt
  clear hbW hb2 kA0 kB0 kG0 HFT qA qB lA lB
  cases hF : fitB x y nets with
  | false =>
    have HS := Lib.hid (show srcB x y (colB cx cy) n one r nets = [] from by unfold srcB; rw [if_neg (by rw [hF]; simp)])
    clear hF
    go_wp2
    go_ret
    exact ⟨_, rfl, w.heap.size + 2, by omega, by rw [← HRR.out, HS.out]; exact OutL.lit kG2 (by omega) (by omega) (Nat.le_refl _), hb2w⟩
  | true =>
    have HFF := Lib.hid hF
    clear hF
    cases r with
    | zero =>
      have e1 : ((m : Int) == (n : Int)) = true := by simp; omega
      have HS := Lib.hid (show srcB x y (colB cx cy) n one 0 nets = [nets] from by unfold srcB; rw [if_pos HFF.out]; rfl)
      have qA := kA2.cell
      have lA := kA2.lt
      have hOl : OutL w2 fb (w.heap.size + 2) (w.heap.size + 3) (.slice (some ⟨w.heap.size + 2, 0, none⟩) 0 0) [] := OutL.lit kG2 (by omega) (by omega) (by omega)
      have HOL := Lib.hid (hOl.by ((Below.refl _ w2).alloc (Nat.le_refl _) (.cells #[.slice an m cn] 27)))
      have HSN2 := Lib.hid (OwnR.by ((Below.refl _ w2).alloc (Nat.le_refl _) (.cells #[.slice an m cn] 27)) (OwnR.by hb2w HSN.out))
      clear hOl
      go_wp2_with (refine list_pushO (by rfl) _ _ (by rfl) fb (w.heap.size + 2) (w.heap.size + 3) (.slice (some ⟨w.heap.size + 2, 0, none⟩) 0 0) [] (by rfl) HOL.out w2.heap.size nets (.slice an m cn) fb (by rfl) (Blk.new _ rfl) HSN2.out (by omega) (by omega) (by simp; omega) (by omega) (by simp) ?_; intro g9 c9 w9 hB9 hw9; have HB9 := Lib.hid hB9; clear hB9)
      have hb9 := hw9.below (below_on ((Below.refl _ w2).alloc (Nat.le_refl _) (.cells #[.slice an m cn] 27)) hb2w) (by omega)
      go_ret
      exact ⟨_, rfl, w.heap.size + 2, by omega, by rw [← HRR.out, HS.out]; exact HB9.out, hb9⟩
    | succ r =>
      have HIH := Lib.hid (ih r rfl)
      have e1 : ((m : Int) == (n : Int)) = false := by simp; omega
      have hmlt : m < n := by omega
      have HS := Lib.hid (srcB_succ x y (colB cx cy) n one r nets HFF.out)
      have HBD := Lib.hid (fun k hk => sea_bound (x := x) (y := y) (col := colB cx cy) (n := n) (r := r) (m := nets.length) (one := one) (nets := nets) hb7 (by omega) k hk)
      have HGK0 := Lib.hid (show ∀ k : Nat, (fun k : Nat => if (colB cx cy nets.length k && !nets.contains (k : Int)) = true then srcB x y (colB cx cy) n one r (nets ++ [(k : Int)]) else []) k = (if (colB cx cy m k && !nets.contains (k : Int)) = true then srcB x y (colB cx cy) n one r (nets ++ [(k : Int)]) else []) from fun k => by rw [HML.out])
      have HRS := Lib.hid (HS.out.symm.trans HRR.out)
      clear HRR
      generalize (fun k : Nat => if (colB cx cy nets.length k && !nets.contains (k : Int)) = true then srcB x y (colB cx cy) n one r (nets ++ [(k : Int)]) else []) = G at *
      have HOL := Lib.hid (show OutL w2 fb (w.heap.size + 2) w2.heap.size (.slice (some ⟨w.heap.size + 2, 0, none⟩) 0 0) (srTo G one 0) from OutL.lit kG2 (by omega) (by omega) (Nat.le_refl _))
      have qA := kA2.cell
      have lA := kA2.lt
      clear ih HS
      go_wp2
      go_loopw [13, 14] (fun ov kv wr => ∃ (k g nO cO hi : Nat), k ≤ n ∧ ov = .slice (some ⟨g, 0, none⟩) nO cO ∧ kv = .int .i64 (k : Int) ∧ Hid (OutL wr fb (w.heap.size + 2) hi (.slice (some ⟨g, 0, none⟩) nO cO) (srTo G one k)) ∧ Hid ((srTo G one k).length = nO) ∧ w.heap.size + 2 ≤ hi ∧ hi ≤ wr.heap.size ∧ Blk wr w.heap.size #[.int .i64 (n : Int), .slice a1 L1 c1, .slice a2 p c2] 35 ∧ Blk wr (w.heap.size + 1) #[.int .i64 (n : Int), .slice b1 L2 d1, .slice b2 p2 d2] 35 ∧ Below w.heap.size w wr) (fun _ kv _ => n - (intOf kv).toNat)
      case atStart => exact ⟨0, _, 0, 0, w2.heap.size, Nat.zero_le _, rfl, rfl, HOL, Lib.hid rfl, by omega, Nat.le_refl _, kA2, kB2, hb2w⟩
      case round =>
        clear HOL kA2 kB2 kG2 qA lA hb2w hsz2 hl2
        obtain ⟨k, g, nO, cO, hi, hk, rfl, rfl, HB, HNO, hhi, hhs, kA, kB, hb⟩ := hrel
        have qB := kB.cell
        have lB := kB.lt
        obtain ⟨C, hC⟩ : ∃ C : Bool, C = (decide (k < n) && !(one && decide (0 < nO))) := ⟨_, rfl⟩
        have HC := Lib.hid hC
        go_upto_region 7 with fail
        go_cut [45] from 33 to 88 (fun cc wx => cc = .bool C ∧ Below wr.heap.size wr wx)
        case first =>
          by_cases h1 : k < n
          · have i1 : (k : Int) < (n : Int) := by omega
            have i2 : decide (k < n) = true := decide_eq_true h1
            rw [i2] at hC
            cases one with
            | false =>
              obtain rfl : C = true := hC
              clear h1
              go_wp2
              go_meet
              exact ⟨rfl, blwT⟩
            | true =>
              by_cases h2 : 0 < nO
              · have i3 : decide (0 < nO) = true := decide_eq_true h2
                have i4 : (0 : Int) < (nO : Int) := by omega
                rw [i3] at hC
                obtain rfl : C = false := hC
                clear h1 h2
                go_wp2
                go_meet
                exact ⟨rfl, blwT⟩
              · have i3 : decide (0 < nO) = false := decide_eq_false h2
                have i4 : ¬ (0 : Int) < (nO : Int) := by omega
                rw [i3] at hC
                obtain rfl : C = true := hC
                clear h1 h2
                go_wp2
                go_meet
                exact ⟨rfl, blwT⟩
          · have i1 : ¬ (k : Int) < (n : Int) := by omega
            have i2 : decide (k < n) = false := decide_eq_false h1
            rw [i2] at hC
            obtain rfl : C = false := hC
            clear h1
            go_wp2
            go_meet
            exact ⟨rfl, blwT⟩
        case rest =>
        obtain ⟨rfl, hbc⟩ := hcut
        have HB := Lib.hid (HB.out.by hbc)
        have kA := Blk.by hbc kA
        have kB := Blk.by hbc kB
        have hbz := below_on hbc hb
        have hsc := hbc.size
        obtain ⟨wy, rfl⟩ : ∃ z : World, z = wc := ⟨_, rfl⟩
        clear hbc hb qB lB hC
        cases C with
        | false =>
          have hEQ : srTo G one k = srTo G one n := by
            have h := HC.out
            by_cases h1 : k < n
            · rw [decide_eq_true h1] at h
              have h2 : one = true ∧ 0 < nO := by
                cases one
                · cases h
                · by_cases q : 0 < nO
                  · exact ⟨rfl, q⟩
                  · rw [decide_eq_false q] at h; cases h
              have := srTo_stop (g := G) (one := one) (k := k) h2.1 (by rw [HNO.out]; exact h2.2) (n - k)
              rw [show k + (n - k) = n by omega] at this
              exact this.symm
            · obtain rfl : n = k := by omega
              rfl
          have HEQ := Lib.hid hEQ
          clear hEQ
          go_wp2
          go_ret
          exact ⟨_, rfl, w.heap.size + 2, by omega, by rw [← HRS.out, ← HEQ.out]; exact HB.out.wide, hbz⟩
        | true =>
          have hCC : k < n ∧ ¬ (one && decide (0 < (srTo G one k).length)) = true := by
            have h := HC.out
            rw [HNO.out]
            by_cases h1 : k < n
            · refine ⟨h1, fun q => ?_⟩
              rw [q] at h
              simp at h
            · rw [decide_eq_false h1] at h; cases h
          have hkn := hCC.1
          have HNS := Lib.hid hCC.2
          clear hCC HC
          have hnb : nO ≤ 900000 := by rw [← HNO.out]; exact (HBD.out k (by omega)).1
          obtain ⟨V1, hV1⟩ : ∃ V, nmOf cx (m : Int) = V := ⟨_, rfl⟩
          obtain ⟨V2, hV2⟩ : ∃ V, nmOf cy (k : Int) = V := ⟨_, rfl⟩
          obtain ⟨D, hD⟩ : ∃ D : Bool, D = decide (V1 = V2) := ⟨_, rfl⟩
          have hcol : colB cx cy m k = D := by unfold colB; rw [hV1, hV2, hD]
          have hGK1 := HGK0.out k
          rw [hcol] at hGK1
          have HGK1 := Lib.hid hGK1
          obtain ⟨xb, xo, xc, hex, lx, cxs⟩ := (HCX.out.by hbz).nm (by rw [HLX.out]; omega)
          obtain ⟨rfl, rfl⟩ : ax = some ⟨xb, xo, none⟩ ∧ kx = xc := by
            simp only [Value.slice.injEq] at hex
            exact ⟨hex.1, hex.2.2⟩
          obtain ⟨yb, yo, yc, hey, ly, cys⟩ := (HCY.out.by hbz).nm (by rw [HLY.out]; omega)
          obtain ⟨rfl, rfl⟩ : ay = some ⟨yb, yo, none⟩ ∧ ky = yc := by
            simp only [Value.slice.injEq] at hey
            exact ⟨hey.1, hey.2.2⟩
          have cm := cxs m (by rw [HLX.out]; exact hmlt)
          have ck := cys k (by rw [HLY.out]; exact hkn)
          rw [hV1] at cm
          rw [hV2] at ck
          have i1 : decide (m < n) = true := decide_eq_true hmlt
          have i2 : (m : Int) < (n : Int) := by omega
          have i3 : decide (k < n) = true := decide_eq_true hkn
          have i4 : (k : Int) < (n : Int) := by omega
          clear hcol hGK1 hex hey cxs cys hV1 hV2
          go_upto_region 9 with fail
          go_cut [15] from 33 to 88 (fun cc wx => cc = .bool (!D) ∧ Below wy.heap.size wy wx)
          case first =>
            by_cases hvv : V1 = V2
            · rw [decide_eq_true hvv] at hD
              subst hD
              subst hvv
              have j1 : (V1 != V1) = false := by simp
              have j2 : (V1 == V1) = true := by simp
              go_quiet (fail)
              go_wp2
              go_meet
              exact ⟨rfl, blwT⟩
            · rw [decide_eq_false hvv] at hD
              subst hD
              have j1 : (V1 != V2) = true := by simpa using hvv
              have j2 : (V1 == V2) = false := by simpa using hvv
              clear hvv
              go_quiet (fail)
              go_wp2
              go_meet
              exact ⟨rfl, blwT⟩
          case rest =>
          obtain ⟨rfl, hbc⟩ := hcut
          have HB := Lib.hid (HB.out.by hbc)
          have kA := Blk.by hbc kA
          have kB := Blk.by hbc kB
          have hbz := below_on hbc hbz
          have hsc := hbc.size
          obtain ⟨wz, rfl⟩ : ∃ z : World, z = wc := ⟨_, rfl⟩
          clear hbc cm ck lx ly hD i1 i2
          go_wp2
          go_loopw [15, 16] (fun uv iv wr => ∃ i : Nat, i ≤ m ∧ iv = .int .i64 (i : Int) ∧ uv = .bool (!D || (nets.take i).contains (k : Int)) ∧ wz = wr) (fun _ iv _ => m - (intOf iv).toNat)
          case atStart => exact ⟨0, Nat.zero_le _, rfl, by simp, rfl⟩
          case round =>
            obtain ⟨i, hi0, rfl, rfl, rfl⟩ := hrel
            by_cases hit : i < m
            · obtain ⟨z, hz⟩ : ∃ z, nets[i]? = some z := ⟨_, List.getElem?_eq_getElem (by rw [HML.out]; exact hit)⟩
              have HCS := Lib.hid (contains_step hz (k : Int))
              obtain ⟨nb, no, nc, hen, ln, cns⟩ := (HSN.out.sl.by hbz).nm (by rw [HML.out]; omega)
              obtain ⟨rfl, rfl⟩ : an = some ⟨nb, no, none⟩ ∧ cn = nc := by
                simp only [Value.slice.injEq] at hen
                exact ⟨hen.1, hen.2.2⟩
              have cz := cns i (by rw [HML.out]; exact hit)
              have e5 : nmOf nets (i : Int) = z := by unfold nmOf; rw [Int.toNat_natCast, List.getD_eq_getElem?_getD, hz]; rfl
              rw [e5] at cz
              have i1 : (i : Int) < (m : Int) := by omega
              have i2 : decide (i < m) = true := decide_eq_true hit
              obtain ⟨T, hT⟩ : ∃ T, (!D || (nets.take i).contains (k : Int)) = T := ⟨_, rfl⟩
              have HT := Lib.hid (show (!D || (nets.take (i + 1)).contains (k : Int)) = (T || (z == (k : Int))) from by rw [HCS.out, ← hT, Bool.or_assoc])
              rw [hT]
              clear hen cns e5 hz hT HCS
              cases T with
              | true =>
                rw [Bool.true_or] at HT
                go_wp2
                exact ⟨⟨i + 1, by omega, by go_num, by rw [HT.out], (by first | trivial | rfl)⟩, by simp [intOf]; omega⟩
              | false =>
                rw [Bool.false_or] at HT
                cases hzk : (z == (k : Int)) with
                | true =>
                  rw [hzk] at HT
                  go_wp2
                  exact ⟨⟨i + 1, by omega, by go_num, by rw [HT.out], (by first | trivial | rfl)⟩, by simp [intOf]; omega⟩
                | false =>
                  rw [hzk] at HT
                  go_wp2
                  exact ⟨⟨i + 1, by omega, by go_num, by rw [HT.out], (by first | trivial | rfl)⟩, by simp [intOf]; omega⟩
            · obtain rfl : m = i := by omega
              have i1 : ¬ (m : Int) < (m : Int) := by omega
              have htk : nets.take m = nets := by rw [← HML.out]; exact List.take_length
              rw [htk]
              clear htk hit
              obtain ⟨U, hU⟩ : ∃ U, (!D || nets.contains (k : Int)) = U := ⟨_, rfl⟩
              have HUU := Lib.hid hU
              rw [hU]
              cases U with
              | true =>
                have hg0 : G k = [] := by
                  rw [HGK1.out, if_neg (by intro q; simp only [Bool.and_eq_true, Bool.not_eq_true'] at q; rw [q.1, q.2] at hU; cases hU)]
                have HG0 := Lib.hid hg0
                clear hU hg0
                go_wp2
                exact ⟨⟨k + 1, g, nO, cO, hi, by omega, by rfl, by go_num, Lib.hid (by rw [srTo_next HNS.out, HG0.out, List.append_nil]; exact HB.out), Lib.hid (by rw [srTo_next HNS.out, HG0.out, List.append_nil]; exact HNO.out), by omega, by omega, kA, kB, hbz⟩, by simp [intOf]; omega⟩
              | false =>
                have hq : D = true ∧ nets.contains (k : Int) = false := by
                  cases D
                  · cases hU
                  · exact ⟨rfl, by simpa using hU⟩
                have HGK := Lib.hid (show G k = srcB x y (colB cx cy) n one r (nets ++ [(k : Int)]) from by rw [HGK1.out, if_pos (by rw [hq.1, hq.2]; rfl)])
                have HGD := Lib.hid (show goodN n (nets ++ [(k : Int)]) from ⟨by
                  rw [List.nodup_append]
                  exact ⟨HG.out.1, by simp, fun a ha b hb e => by
                    rw [List.mem_singleton] at hb
                    subst e; subst hb
                    have := hq.2
                    simp at this
                    exact this ha⟩, fun z hz => by
                  rcases List.mem_append.1 hz with h | h
                  · exact HG.out.2 z h
                  · rw [List.mem_singleton] at h; omega⟩)
                clear hU hq HUU
                have HSZ := Lib.hid (HSN.out.sl.by hbz)
                go_upto_region 15 with fail
                have hS : (fun w' : World => Blk w' w.heap.size #[.int .i64 (n : Int), .slice a1 L1 c1, .slice a2 p c2] 35 ∧ Blk w' (w.heap.size + 1) #[.int .i64 (n : Int), .slice b1 L2 d1, .slice b2 p2 d2] 35) { wz with drawn := wz.drawn + 1 } := ⟨kA.drew, kB.drew⟩
                refine wp_region_any (by kernel_rfl) (wpAny_of_E (S := fun w' : World => Blk w' w.heap.size #[.int .i64 (n : Int), .slice a1 L1 c1, .slice a2 p c2] 35 ∧ Blk w' (w.heap.size + 1) #[.int .i64 (n : Int), .slice b1 L2 d1, .slice b2 p2 d2] 35) (l := 14) _ _ _ _ ?_)
                change wpAnyE _ _ _ _ _ _ _ _ _ wz.drew
                refine wpAnyE_takeL (i := 0) (v := ?_) rfl (by kernel_rfl) (fun _ _ _ h => h) (Or.inl ⟨by rfl, ?_⟩) hS ?_
                rotate_left
                · intro w hSw; (try dsimp only at hSw); have qA := hSw.1.cell; have qB := hSw.2.cell; have lA := hSw.1.lt; have lB := hSw.2.lt; clear hSw; go_simp; (try with_reducible rfl)
                try simp only [Act.put, List.setIfInBounds_toArray, List.set_cons_zero, List.set_cons_succ]
                refine wpAnyE_takeL (i := 1) (v := ?_) rfl (by kernel_rfl) (fun _ _ _ h => h) (Or.inl ⟨by rfl, ?_⟩) hS ?_
                rotate_left
                · intro w hSw; (try dsimp only at hSw); have qA := hSw.1.cell; have qB := hSw.2.cell; have lA := hSw.1.lt; have lB := hSw.2.lt; clear hSw; go_simp; (try with_reducible rfl)
                try simp only [Act.put, List.setIfInBounds_toArray, List.set_cons_zero, List.set_cons_succ]
                refine wpAnyE_takeL (i := 2) (v := ?_) rfl (by kernel_rfl) (fun _ _ _ h => h) (Or.inl ⟨by rfl, ?_⟩) hS ?_
                rotate_left
                · intro w hSw; (try dsimp only at hSw); have qA := hSw.1.cell; have qB := hSw.2.cell; have lA := hSw.1.lt; have lB := hSw.2.lt; clear hSw; go_simp; (try with_reducible rfl)
                try simp only [Act.put, List.setIfInBounds_toArray, List.set_cons_zero, List.set_cons_succ]
                refine wpAnyE_takeL (i := 3) (v := ?_) rfl (by kernel_rfl) (fun _ _ _ h => h) (Or.inl ⟨by rfl, ?_⟩) hS ?_
                rotate_left
                · intro w hSw; (try dsimp only at hSw); have qA := hSw.1.cell; have qB := hSw.2.cell; have lA := hSw.1.lt; have lB := hSw.2.lt; clear hSw; go_simp; (try with_reducible rfl)
                try simp only [Act.put, List.setIfInBounds_toArray, List.set_cons_zero, List.set_cons_succ]
                refine wpAnyE_takeL (i := 4) (v := ?_) rfl (by kernel_rfl) (fun _ _ _ h => h) (Or.inl ⟨by rfl, ?_⟩) hS ?_
                rotate_left
                · intro w hSw; (try dsimp only at hSw); have qA := hSw.1.cell; have qB := hSw.2.cell; have lA := hSw.1.lt; have lB := hSw.2.lt; clear hSw; go_simp; (try with_reducible rfl)
                try simp only [Act.put, List.setIfInBounds_toArray, List.set_cons_zero, List.set_cons_succ]
                refine wpAnyE_takeL (i := 6) (v := ?_) rfl (by kernel_rfl) (fun _ _ _ h => h) (Or.inl ⟨by rfl, ?_⟩) hS ?_
                rotate_left
                · intro w hSw; (try dsimp only at hSw); have qA := hSw.1.cell; have qB := hSw.2.cell; have lA := hSw.1.lt; have lB := hSw.2.lt; clear hSw; go_simp; (try with_reducible rfl)
                try simp only [Act.put, List.setIfInBounds_toArray, List.set_cons_zero, List.set_cons_succ]
                refine wpAnyE_takeL (i := 8) (v := ?_) rfl (by kernel_rfl) (fun _ _ _ h => h) (Or.inl ⟨by rfl, ?_⟩) hS ?_
                rotate_left
                · intro w hSw; (try dsimp only at hSw); have qA := hSw.1.cell; have qB := hSw.2.cell; have lA := hSw.1.lt; have lB := hSw.2.lt; clear hSw; go_simp; (try with_reducible rfl)
                try simp only [Act.put, List.setIfInBounds_toArray, List.set_cons_zero, List.set_cons_succ]
                refine wpAnyE_takeL (i := 11) (v := ?_) rfl (by kernel_rfl) (fun _ _ _ h => h) (Or.inl ⟨by rfl, ?_⟩) hS ?_
                rotate_left
                · intro w hSw; (try dsimp only at hSw); have qA := hSw.1.cell; have qB := hSw.2.cell; have lA := hSw.1.lt; have lB := hSw.2.lt; clear hSw; go_simp; (try with_reducible rfl)
                try simp only [Act.put, List.setIfInBounds_toArray, List.set_cons_zero, List.set_cons_succ]
                refine wpAnyE_twoL (k := 5) (k' := 9) (by kernel_rfl) rfl rfl (fun K hK => ?_) (fun K hK => ?_)
                · go_simp
                  have k0 : Blk (wz.alloc (.cells #[] 2)).drew wz.heap.size #[] 2 := (Blk.new _ rfl).drew
                  have hal : Below wz.heap.size wz (wz.alloc (.cells #[] 2)).drew := ((Below.refl _ wz).alloc (Nat.le_refl _) _).drew
                  have hsa : wz.heap.size + 1 ≤ (wz.alloc (.cells #[] 2)).drew.heap.size := by simp [World.size_drew]
                  have hsb : (wz.alloc (.cells #[] 2)).drew.heap.size ≤ wz.heap.size + 1 := by simp [World.size_drew]
                  refine hK.out _ _ (fun _ => ⟨Blk.by hal kA, Blk.by hal kB⟩) ?_
                  try simp only [Act.put, List.setIfInBounds_toArray, List.set_cons_zero, List.set_cons_succ]
                  generalize (wz.alloc (.cells #[] 2)).drew = wa at *
                  have hB0 : BldI wa wz.heap.size (wz.heap.size + 1) (.slice (some ⟨wz.heap.size, 0, none⟩) 0 0) [] := BldI.lit (zs := []) k0 rfl (by simp) (Nat.le_refl _) (by omega) (by omega)
                  clear k0
                  refine wpAnyE_twoL (k := 7) (k' := 9) (by kernel_rfl) rfl rfl (fun K hK => ?_) (fun K hK => ?_)
                  · refine step_catI (by rfl) _ _ (by rfl) wz.heap.size (wz.heap.size + 1) wz.heap.size 0 0 m [] nets (by rfl) hB0 rfl (.slice an m cn) (by rfl) (HSZ.out.by hal) HML.out (by omega) (by omega) ?_
                    intro g7 c7 w7 hB7 hw7
                    have hL7 : Below wz.heap.size wz w7 := hw7.below hal (Nat.le_refl _)
                    have hs7 := hw7.size
                    simp only [Nat.zero_add, List.nil_append] at hB7 ⊢
                    refine hK.out _ _ (fun _ => ⟨Blk.by hL7 kA, Blk.by hL7 kB⟩) ?_
                    try simp only [Act.put, List.setIfInBounds_toArray, List.set_cons_zero, List.set_cons_succ]
                    refine wpAnyE_oneL (k := 9) (by kernel_rfl) rfl (fun K hK => ?_)
                    go_simp
                    have hNT : Blk (w7.alloc (.cells #[.int .i64 (k : Int)] 2)) w7.heap.size #[.int .i64 (k : Int)] 2 := Blk.new _ rfl
                    have hLT : Below wz.heap.size wz (w7.alloc (.cells #[.int .i64 (k : Int)] 2)) := hL7.alloc (by omega) _
                    have hBT := hB7.by ((Below.refl _ w7).alloc (Nat.le_refl _) (.cells #[.int .i64 (k : Int)] 2))
                    have hs8 : w7.heap.size + 1 ≤ (w7.alloc (.cells #[.int .i64 (k : Int)] 2)).heap.size := by simp
                    obtain ⟨h9, hh9⟩ : ∃ h, w7.heap.size = h := ⟨_, rfl⟩
                    rw [hh9] at hNT hBT hs8 hs7 ⊢
                    refine hK.out _ _ (fun _ => ⟨Blk.by hLT kA, Blk.by hLT kB⟩) ?_
                    try simp only [Act.put, List.setIfInBounds_toArray, List.set_cons_zero, List.set_cons_succ]
                    generalize w7.alloc (.cells #[.int .i64 (k : Int)] 2) = wT at *
                    clear hh9 hL7 hw7 hB7 hB0 hal
                    have kA1 := Blk.by hLT kA
                    have kB1 := Blk.by hLT kB
                    have hsT := hLT.size
                    refine wpAnyE_oneL (k := 10) (by kernel_rfl) rfl (fun K hK => ?_)
                    refine step_pushIm (by rfl) _ _ (by rfl) wz.heap.size h9 m nets [(k : Int)] HML.out (by rfl) hBT h9 1 #[.int .i64 (k : Int)] (by rfl) rfl (by omega) hNT rfl (by omega) (by omega) ?_
                    intro a9 c9 w9 hB9 hw9
                    have kA9 := hw9.blk kA1 (by omega)
                    have kB9 := hw9.blk kB1 (by omega)
                    have HO9 := Lib.hid (HB.out.by (hw9.below hLT (by omega)))
                    have hb9w : Below w.heap.size w w9 := hw9.below (below_on hLT hbz) (by omega)
                    have hs9 := hw9.size
                    obtain ⟨f, hf1, hf⟩ := OwnR.pick hB9.own (show wz.heap.size < w9.heap.size by omega)
                    have HF9 := Lib.hid hf
                    refine hK.out _ _ (fun _ => ⟨kA9, kB9⟩) ?_
                    try simp only [Act.put, List.setIfInBounds_toArray, List.set_cons_zero, List.set_cons_succ]
                    refine wpAnyE_oneL (k := 12) (by kernel_rfl) rfl (fun K hK => ?_)
                    go_simp
                    go_at_call 58
                    refine (HIH.out (nets ++ [(k : Int)]) _ _ _ _ _ f w9 (HV.out.by hb9w) (HU.out.by hb9w) (HCX.out.by hb9w) (HCY.out.by hb9w) HF9.out (by omega) HGD.out (by rw [List.length_append, HML.out, List.length_singleton]; omega)).mono ?_
                    rintro e w10 ⟨v10, rfl, lo10, hlo10, hO10, hb10⟩
                    have HO10 := Lib.hid hO10
                    obtain ⟨ga, cM, rfl⟩ := hO10.sized
                    obtain ⟨M, hM⟩ : ∃ M, (srcB x y (colB cx cy) n one r (nets ++ [(k : Int)])).length = M := ⟨_, rfl⟩
                    rw [hM] at HO10 ⊢
                    have hMb : M ≤ 900000 := by rw [← hM, ← HGK.out]; exact (HBD.out k (by omega)).2
                    have HM := Lib.hid hM
                    have kA10 := Blk.by hb10 kA9
                    have kB10 := Blk.by hb10 kB9
                    have HOX := Lib.hid (HO9.out.by hb10)
                    have hb10w := below_on hb10 hb9w
                    have hs10 := hb10.size
                    clear hO10 hM hb10 HO9 HF9 kA1 kB1 kA9 kB9 hB9 hw9 hBT hNT hLT hS
                    refine hK.out _ _ (fun _ => ⟨kA10, kB10⟩) ?_
                    try simp only [Act.put, List.setIfInBounds_toArray, List.set_cons_zero, List.set_cons_succ]
                    refine wpAnyE_oneL (k := 13) (by kernel_rfl) rfl (fun K hK => ?_)
                    refine step_appP (by rfl) _ _ (by rfl) fb (w.heap.size + 2) hi g nO cO (srTo G one k) (srcB x y (colB cx cy) n one r (nets ++ [(k : Int)])) (by rfl) HOX.out HNO.out f lo10 w10.heap.size M (.slice ga M cM) (by rfl) HO10.out HM.out (by omega) (by omega) (by omega) (by omega) ?_
                    intro gg cc w11 hO11 hw11
                    have kA11 := hw11.blk kA10 (by omega)
                    have kB11 := hw11.blk kB10 (by omega)
                    have hb11w : Below w.heap.size w w11 := hw11.below hb10w (by omega)
                    have hs11 := hw11.size
                    have HO11 := Lib.hid hO11
                    refine hK.out _ _ (fun _ => ⟨kA11, kB11⟩) ?_
                    try simp only [Act.put, List.setIfInBounds_toArray, List.set_cons_zero, List.set_cons_succ]
                    refine wpAnyE_oneL (k := 14) (by kernel_rfl) rfl (fun K hK => ?_)
                    go_simp
                    refine hK.out _ _ (fun h => absurd rfl h) ?_
                    refine wpAnyE_done (by kernel_rfl) ?_ _
                    clear hO11 hw11 HOX HO10 kA10 kB10 hb10w
                    go_wp2
                    exact ⟨⟨k + 1, gg, nO + M, cc, w11.heap.size, by omega, by rfl, by go_num, Lib.hid (by rw [srTo_next HNS.out, HGK.out]; exact HO11.out), Lib.hid (by rw [srTo_next HNS.out, HGK.out, List.length_append, HNO.out, HM.out]), by omega, Nat.le_refl _, kA11, kB11, hb11w⟩, by simp [intOf]; omega⟩
                  · go_simp
                    have hNa : Blk (wa.alloc (.cells #[.int .i64 (k : Int)] 2)) wa.heap.size #[.int .i64 (k : Int)] 2 := Blk.new _ rfl
                    have hLa : Below wz.heap.size wz (wa.alloc (.cells #[.int .i64 (k : Int)] 2)) := hal.alloc (by omega) _
                    have hBa := hB0.by ((Below.refl _ wa).alloc (Nat.le_refl _) (.cells #[.int .i64 (k : Int)] 2))
                    have hsd : wa.heap.size + 1 ≤ (wa.alloc (.cells #[.int .i64 (k : Int)] 2)).heap.size := by simp
                    obtain ⟨h9, hh9⟩ : ∃ h, wa.heap.size = h := ⟨_, rfl⟩
                    rw [hh9] at hNa hsa hsb hsd ⊢
                    refine hK.out _ _ (fun _ => ⟨Blk.by hLa kA, Blk.by hLa kB⟩) ?_
                    try simp only [Act.put, List.setIfInBounds_toArray, List.set_cons_zero, List.set_cons_succ]
                    generalize wa.alloc (.cells #[.int .i64 (k : Int)] 2) = wb at *
                    clear hh9 hB0 hal
                    refine wpAnyE_oneL (k := 7) (by kernel_rfl) rfl (fun K hK => ?_)
                    refine step_catI (by rfl) _ _ (by rfl) wz.heap.size (wz.heap.size + 1) wz.heap.size 0 0 m [] nets (by rfl) hBa rfl (.slice an m cn) (by rfl) (HSZ.out.by hLa) HML.out (by omega) (by omega) ?_
                    intro g7 c7 wT hBT hw7
                    have hLT : Below wz.heap.size wz wT := hw7.below hLa (Nat.le_refl _)
                    have hNT := hw7.blk hNa (by omega)
                    have hs7 := hw7.size
                    simp only [Nat.zero_add, List.nil_append] at hBT ⊢
                    refine hK.out _ _ (fun _ => ⟨Blk.by hLT kA, Blk.by hLT kB⟩) ?_
                    try simp only [Act.put, List.setIfInBounds_toArray, List.set_cons_zero, List.set_cons_succ]
                    clear hw7 hBa hLa hNa
                    have kA1 := Blk.by hLT kA
                    have kB1 := Blk.by hLT kB
                    have hsT := hLT.size
                    refine wpAnyE_oneL (k := 10) (by kernel_rfl) rfl (fun K hK => ?_)
                    refine step_pushIm (by rfl) _ _ (by rfl) wz.heap.size wT.heap.size m nets [(k : Int)] HML.out (by rfl) hBT h9 1 #[.int .i64 (k : Int)] (by rfl) rfl (by omega) hNT rfl (by omega) (by omega) ?_
                    intro a9 c9 w9 hB9 hw9
                    have kA9 := hw9.blk kA1 (by omega)
                    have kB9 := hw9.blk kB1 (by omega)
                    have HO9 := Lib.hid (HB.out.by (hw9.below hLT (by omega)))
                    have hb9w : Below w.heap.size w w9 := hw9.below (below_on hLT hbz) (by omega)
                    have hs9 := hw9.size
                    obtain ⟨f, hf1, hf⟩ := OwnR.pick hB9.own (show wz.heap.size < w9.heap.size by omega)
                    have HF9 := Lib.hid hf
                    refine hK.out _ _ (fun _ => ⟨kA9, kB9⟩) ?_
                    try simp only [Act.put, List.setIfInBounds_toArray, List.set_cons_zero, List.set_cons_succ]
                    refine wpAnyE_oneL (k := 12) (by kernel_rfl) rfl (fun K hK => ?_)
                    go_simp
                    go_at_call 58
                    refine (HIH.out (nets ++ [(k : Int)]) _ _ _ _ _ f w9 (HV.out.by hb9w) (HU.out.by hb9w) (HCX.out.by hb9w) (HCY.out.by hb9w) HF9.out (by omega) HGD.out (by rw [List.length_append, HML.out, List.length_singleton]; omega)).mono ?_
                    rintro e w10 ⟨v10, rfl, lo10, hlo10, hO10, hb10⟩
                    have HO10 := Lib.hid hO10
                    obtain ⟨ga, cM, rfl⟩ := hO10.sized
                    obtain ⟨M, hM⟩ : ∃ M, (srcB x y (colB cx cy) n one r (nets ++ [(k : Int)])).length = M := ⟨_, rfl⟩
                    rw [hM] at HO10 ⊢
                    have hMb : M ≤ 900000 := by rw [← hM, ← HGK.out]; exact (HBD.out k (by omega)).2
                    have HM := Lib.hid hM
                    have kA10 := Blk.by hb10 kA9
                    have kB10 := Blk.by hb10 kB9
                    have HOX := Lib.hid (HO9.out.by hb10)
                    have hb10w := below_on hb10 hb9w
                    have hs10 := hb10.size
                    clear hO10 hM hb10 HO9 HF9 kA1 kB1 kA9 kB9 hB9 hw9 hBT hNT hLT hS
                    refine hK.out _ _ (fun _ => ⟨kA10, kB10⟩) ?_
                    try simp only [Act.put, List.setIfInBounds_toArray, List.set_cons_zero, List.set_cons_succ]
                    refine wpAnyE_oneL (k := 13) (by kernel_rfl) rfl (fun K hK => ?_)
                    refine step_appP (by rfl) _ _ (by rfl) fb (w.heap.size + 2) hi g nO cO (srTo G one k) (srcB x y (colB cx cy) n one r (nets ++ [(k : Int)])) (by rfl) HOX.out HNO.out f lo10 w10.heap.size M (.slice ga M cM) (by rfl) HO10.out HM.out (by omega) (by omega) (by omega) (by omega) ?_
                    intro gg cc w11 hO11 hw11
                    have kA11 := hw11.blk kA10 (by omega)
                    have kB11 := hw11.blk kB10 (by omega)
                    have hb11w : Below w.heap.size w w11 := hw11.below hb10w (by omega)
                    have hs11 := hw11.size
                    have HO11 := Lib.hid hO11
                    refine hK.out _ _ (fun _ => ⟨kA11, kB11⟩) ?_
                    try simp only [Act.put, List.setIfInBounds_toArray, List.set_cons_zero, List.set_cons_succ]
                    refine wpAnyE_oneL (k := 14) (by kernel_rfl) rfl (fun K hK => ?_)
                    go_simp
                    refine hK.out _ _ (fun h => absurd rfl h) ?_
                    refine wpAnyE_done (by kernel_rfl) ?_ _
                    clear hO11 hw11 HOX HO10 kA10 kB10 hb10w
                    go_wp2
                    exact ⟨⟨k + 1, gg, nO + M, cc, w11.heap.size, by omega, by rfl, by go_num, Lib.hid (by rw [srTo_next HNS.out, HGK.out]; exact HO11.out), Lib.hid (by rw [srTo_next HNS.out, HGK.out, List.length_append, HNO.out, HM.out]), by omega, Nat.le_refl _, kA11, kB11, hb11w⟩, by simp [intOf]; omega⟩
                · go_simp
                  have hNa : Blk (wz.alloc (.cells #[.int .i64 (k : Int)] 2)).drew wz.heap.size #[.int .i64 (k : Int)] 2 := (Blk.new _ rfl).drew
                  have hLa : Below wz.heap.size wz (wz.alloc (.cells #[.int .i64 (k : Int)] 2)).drew := ((Below.refl _ wz).alloc (Nat.le_refl _) _).drew
                  have hsa : wz.heap.size + 1 ≤ (wz.alloc (.cells #[.int .i64 (k : Int)] 2)).drew.heap.size := by simp [World.size_drew]
                  have hsb : (wz.alloc (.cells #[.int .i64 (k : Int)] 2)).drew.heap.size ≤ wz.heap.size + 1 := by simp [World.size_drew]
                  refine hK.out _ _ (fun _ => ⟨Blk.by hLa kA, Blk.by hLa kB⟩) ?_
                  try simp only [Act.put, List.setIfInBounds_toArray, List.set_cons_zero, List.set_cons_succ]
                  generalize (wz.alloc (.cells #[.int .i64 (k : Int)] 2)).drew = wa at *
                  refine wpAnyE_oneL (k := 5) (by kernel_rfl) rfl (fun K hK => ?_)
                  go_simp
                  have k0 : Blk (wa.alloc (.cells #[] 2)) wa.heap.size #[] 2 := Blk.new _ rfl
                  have hNb := Blk.by ((Below.refl _ wa).alloc (Nat.le_refl _) (.cells #[] 2)) hNa
                  have hLb : Below wz.heap.size wz (wa.alloc (.cells #[] 2)) := hLa.alloc (by omega) _
                  have hsd : wa.heap.size + 1 ≤ (wa.alloc (.cells #[] 2)).heap.size := by simp
                  obtain ⟨h0, hh0⟩ : ∃ h, wa.heap.size = h := ⟨_, rfl⟩
                  rw [hh0] at k0 hsa hsb hsd ⊢
                  refine hK.out _ _ (fun _ => ⟨Blk.by hLb kA, Blk.by hLb kB⟩) ?_
                  try simp only [Act.put, List.setIfInBounds_toArray, List.set_cons_zero, List.set_cons_succ]
                  generalize wa.alloc (.cells #[] 2) = wb at *
                  have hB0 : BldI wb h0 (h0 + 1) (.slice (some ⟨h0, 0, none⟩) 0 0) [] := BldI.lit (zs := []) k0 rfl (by simp) (Nat.le_refl _) (by omega) (by omega)
                  clear k0 hh0 hNa hLa
                  refine wpAnyE_oneL (k := 7) (by kernel_rfl) rfl (fun K hK => ?_)
                  refine step_catI (by rfl) _ _ (by rfl) h0 (h0 + 1) h0 0 0 m [] nets (by rfl) hB0 rfl (.slice an m cn) (by rfl) (HSZ.out.by hLb) HML.out (by omega) (by omega) ?_
                  intro g7 c7 wT hBT hw7
                  have hLT : Below wz.heap.size wz wT := hw7.below hLb (by omega)
                  have hNT := hw7.blk hNb (by omega)
                  have hs7 := hw7.size
                  simp only [Nat.zero_add, List.nil_append] at hBT ⊢
                  refine hK.out _ _ (fun _ => ⟨Blk.by hLT kA, Blk.by hLT kB⟩) ?_
                  try simp only [Act.put, List.setIfInBounds_toArray, List.set_cons_zero, List.set_cons_succ]
                  clear hw7 hB0 hLb hNb
                  have kA1 := Blk.by hLT kA
                  have kB1 := Blk.by hLT kB
                  have hsT := hLT.size
                  refine wpAnyE_oneL (k := 10) (by kernel_rfl) rfl (fun K hK => ?_)
                  refine step_pushIm (by rfl) _ _ (by rfl) h0 wT.heap.size m nets [(k : Int)] HML.out (by rfl) hBT wz.heap.size 1 #[.int .i64 (k : Int)] (by rfl) rfl (by omega) hNT rfl (by omega) (by omega) ?_
                  intro a9 c9 w9 hB9 hw9
                  have kA9 := hw9.blk kA1 (by omega)
                  have kB9 := hw9.blk kB1 (by omega)
                  have HO9 := Lib.hid (HB.out.by (hw9.below hLT (by omega)))
                  have hb9w : Below w.heap.size w w9 := hw9.below (below_on hLT hbz) (by omega)
                  have hs9 := hw9.size
                  obtain ⟨f, hf1, hf⟩ := OwnR.pick hB9.own (show h0 < w9.heap.size by omega)
                  have HF9 := Lib.hid hf
                  refine hK.out _ _ (fun _ => ⟨kA9, kB9⟩) ?_
                  try simp only [Act.put, List.setIfInBounds_toArray, List.set_cons_zero, List.set_cons_succ]
                  refine wpAnyE_oneL (k := 12) (by kernel_rfl) rfl (fun K hK => ?_)
                  go_simp
                  go_at_call 58
                  refine (HIH.out (nets ++ [(k : Int)]) _ _ _ _ _ f w9 (HV.out.by hb9w) (HU.out.by hb9w) (HCX.out.by hb9w) (HCY.out.by hb9w) HF9.out (by omega) HGD.out (by rw [List.length_append, HML.out, List.length_singleton]; omega)).mono ?_
                  rintro e w10 ⟨v10, rfl, lo10, hlo10, hO10, hb10⟩
                  have HO10 := Lib.hid hO10
                  obtain ⟨ga, cM, rfl⟩ := hO10.sized
                  obtain ⟨M, hM⟩ : ∃ M, (srcB x y (colB cx cy) n one r (nets ++ [(k : Int)])).length = M := ⟨_, rfl⟩
                  rw [hM] at HO10 ⊢
                  have hMb : M ≤ 900000 := by rw [← hM, ← HGK.out]; exact (HBD.out k (by omega)).2
                  have HM := Lib.hid hM
                  have kA10 := Blk.by hb10 kA9
                  have kB10 := Blk.by hb10 kB9
                  have HOX := Lib.hid (HO9.out.by hb10)
                  have hb10w := below_on hb10 hb9w
                  have hs10 := hb10.size
                  clear hO10 hM hb10 HO9 HF9 kA1 kB1 kA9 kB9 hB9 hw9 hBT hNT hLT hS
                  refine hK.out _ _ (fun _ => ⟨kA10, kB10⟩) ?_
                  try simp only [Act.put, List.setIfInBounds_toArray, List.set_cons_zero, List.set_cons_succ]
                  refine wpAnyE_oneL (k := 13) (by kernel_rfl) rfl (fun K hK => ?_)
                  refine step_appP (by rfl) _ _ (by rfl) fb (w.heap.size + 2) hi g nO cO (srTo G one k) (srcB x y (colB cx cy) n one r (nets ++ [(k : Int)])) (by rfl) HOX.out HNO.out f lo10 w10.heap.size M (.slice ga M cM) (by rfl) HO10.out HM.out (by omega) (by omega) (by omega) (by omega) ?_
                  intro gg cc w11 hO11 hw11
                  have kA11 := hw11.blk kA10 (by omega)
                  have kB11 := hw11.blk kB10 (by omega)
                  have hb11w : Below w.heap.size w w11 := hw11.below hb10w (by omega)
                  have hs11 := hw11.size
                  have HO11 := Lib.hid hO11
                  refine hK.out _ _ (fun _ => ⟨kA11, kB11⟩) ?_
                  try simp only [Act.put, List.setIfInBounds_toArray, List.set_cons_zero, List.set_cons_succ]
                  refine wpAnyE_oneL (k := 14) (by kernel_rfl) rfl (fun K hK => ?_)
                  go_simp
                  refine hK.out _ _ (fun h => absurd rfl h) ?_
                  refine wpAnyE_done (by kernel_rfl) ?_ _
                  clear hO11 hw11 HOX HO10 kA10 kB10 hb10w
                  go_wp2
                  exact ⟨⟨k + 1, gg, nO + M, cc, w11.heap.size, by omega, by rfl, by go_num, Lib.hid (by rw [srTo_next HNS.out, HGK.out]; exact HO11.out), Lib.hid (by rw [srTo_next HNS.out, HGK.out, List.length_append, HNO.out, HM.out]), by omega, Nat.le_refl _, kA11, kB11, hb11w⟩, by simp [intOf]; omega⟩
theorem l30Search_any (x y : Nl) (cx cy : List Int) (one : Bool) (n : Nat) (hx : nlB x = true) (hy : nlB y = true) (hxy : y.nets = x.nets) (hpl : y.ps.length = x.ps.length) (hnn : x.nets = n) (hcx : cx.length = n) (hcy : cy.length = n) (hb7 : one = true ∨ n ≤ 7) : ∀ r, SeaOk x y cx cy one n r
  | 0 => sea_step x y cx cy one n hx hy hxy hpl hnn hcx hcy hb7 0 (fun q h => by omega)
  | r + 1 => sea_step x y cx cy one n hx hy hxy hpl hnn hcx hcy hb7 (r + 1) (fun q h => by
    obtain rfl : r = q := by omega
    exact l30Search_any x y cx cy one n hx hy hxy hpl hnn hcx hcy hb7 r)
end Go.Proofs.YtifbffianbgeaaaGreat
