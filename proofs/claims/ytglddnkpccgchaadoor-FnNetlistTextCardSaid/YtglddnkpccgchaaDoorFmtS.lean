/- Numbers as text, the reference's. -/
import Derived.Test.YtglddnkpccgchaaDoorBase
import Derived.Laws.BytesArg
import Derived.Test.YtglddnkpccgchaaDoorValid0
import Derived.Test.YtglddnkpccgchaaDoorSpecNl
import Derived.Test.YtglddnkpccgchaaDoorNls
import Derived.Test.YtglddnkpccgchaaDoorImplNl
import Derived.Deep.RegionHeldLaw
import Derived.Deep.DeepCutAuto
namespace Go.Proofs.YtglddnkpccgchaaDoor
open Go.RowKit
set_option linter.unusedVariables false
set_option linter.unusedSimpArgs false

def dig (n : Nat) : ByteArray := strOfNums [((48 + n : Nat) : Int)]
theorem size_dig (n : Nat) : (dig n).size = 1 := rfl
/-- The decimal form of a number. -/
def numS (n : Nat) : ByteArray := if h : n < 10 then dig n else numS (n / 10) ++ numS (n % 10)
termination_by n
decreasing_by all_goals omega
theorem numS_lt {n : Nat} (h : n < 10) : numS n = dig n := by rw [numS, dif_pos h]
theorem numS_ge {n : Nat} (h : ¬ n < 10) : numS n = numS (n / 10) ++ numS (n % 10) := by rw [numS, dif_neg h]
theorem size_numS (n : Nat) : (numS n).size ≤ n + 1 := by
  induction n using Nat.strongRecOn with
  | ind n ih =>
    by_cases h : n < 10
    · rw [numS_lt h, size_dig]; omega
    · rw [numS_ge h, ByteArray.size_append, numS_lt (show n % 10 < 10 by omega), size_dig]
      have := ih (n / 10) (by omega)
      omega

set_option maxRecDepth 100000 in
set_option maxHeartbeats 1000000 in
theorem l16Number_any (n : Nat) : n ≤ 1000000000000000000 → ∀ w : World, Calls Tryd.prog 23 #[.int .i64 n] w fun e w' => e = .returned (.string (numS n)) ∧ Below w.heap.size w w' := by
  induction n using Nat.strongRecOn with
  | ind n ih =>
    intro hn w
    by_cases h : n < 10
    · have hw1 : IntKind.i64.wrap (48 + (n : Int)) = 48 + (n : Int) := by rw [IntKind.wrap_i64]; omega
      have hw2 : IntKind.u8.wrap (48 + (n : Int)) = 48 + (n : Int) := by simp [IntKind.wrap, IntKind.bits, IntKind.signed]; omega
      have hcv : (convert 39 9 (.slice (some ⟨w.heap.size, 0, none⟩) 1 1)).run Tryd.prog (w.alloc (.cells #[.int .u8 (48 + (n : Int))] 5)) = .ok (.string (dig n)) (w.alloc (.cells #[.int .u8 (48 + (n : Int))] 5)) :=
        run_convert_bytes_arg _ 39 5 Tryd.underlying39 Tryd.underlying5 w.heap.size 0 1 1 [((48 + n : Nat) : Int)] rfl (fun i hi => by (obtain rfl : i = 0 := (by omega)); simp) 9 Tryd.underlying9
      rw [numS_lt h]
      have i1 : (n : Int) < 10 := by omega
      clear ih
      go_enter Tryd.func23, Tryd.ntmps23
      go_wp2
      go_ret
      exact ⟨rfl, (by ((repeat (first | (with_reducible exact Below.refl _ _) | (with_reducible refine below_drewN ?_ _) | (with_reducible refine Below.drew ?_) | (with_reducible refine below_al ?_ _) | (with_reducible refine below_on (by assumption) ?_) | ((with_reducible refine Below.setCell ?_ ?_ _); rotate_left; focus (first | omega | (simp; done) | (simp; omega))) | (with_reducible assumption))); done))⟩
    · obtain ⟨q, hq⟩ : ∃ q, n / 10 = q := ⟨_, rfl⟩
      obtain ⟨r, hr⟩ : ∃ r, n % 10 = r := ⟨_, rfl⟩
      have h1 := Lib.hid (ih q (by omega) (by omega))
      have h2 := Lib.hid (ih r (by omega) (by omega))
      have s1 := size_numS q
      have s2 := size_numS r
      rw [numS_ge h, hq, hr]
      have e1 : ((n : Int) / 10) = (q : Int) := by omega
      have e2 : ((n : Int) % 10) = (r : Int) := by omega
      have e3 : Int.tdiv (n : Int) 10 = (q : Int) := by rw [Int.tdiv_eq_ediv_of_nonneg (by omega)]; omega
      have e4 : Int.tmod (n : Int) 10 = (r : Int) := by rw [Int.tmod_eq_emod_of_nonneg (by omega)]; omega
      have hwq : IntKind.i64.wrap (q : Int) = (q : Int) := by rw [IntKind.wrap_i64]; omega
      have hwr : IntKind.i64.wrap (r : Int) = (r : Int) := by rw [IntKind.wrap_i64]; omega
      have i1 : ¬ (n : Int) < 10 := by omega
      have hqr : q ≤ 1000000000000000000 ∧ r < 10 := by omega
      generalize numS q = A at *
      generalize numS r = B at *
      have hsz : A.size + B.size ≤ 9223372036854775807 := by omega
      have hadd : ∀ w : World, (Op.stringOp .add A B).run Tryd.prog w = .ok (.string (A ++ B)) w := fun w => run_string_add_sum w A B hsz
      have hsz2 : ¬ A.size + B.size > 9223372036854775807 := by omega
      clear ih hq hr s1 s2 hqr h
      go_enter Tryd.func23, Tryd.ntmps23
      go_wp2_with fail
      refine (h1.out _).mono ?_
      rintro e w1 ⟨rfl, hb1⟩
      go_wp2_with fail
      refine (h2.out _).mono ?_
      rintro e w2 ⟨rfl, hb2⟩
      go_wp2
      go_ret
      exact ⟨rfl, (by ((repeat (first | (with_reducible exact Below.refl _ _) | (with_reducible refine below_drewN ?_ _) | (with_reducible refine Below.drew ?_) | (with_reducible refine below_al ?_ _) | (with_reducible refine below_on (by assumption) ?_) | ((with_reducible refine Below.setCell ?_ ?_ _); rotate_left; focus (first | omega | (simp; done) | (simp; omega))) | (with_reducible assumption))); done))⟩
end Go.Proofs.YtglddnkpccgchaaDoor

/- The text of a netlist: the plain part. -/
namespace Go.Proofs.YtglddnkpccgchaaDoor
open Go.RowKit
set_option linter.unusedVariables false
set_option linter.unusedSimpArgs false

def spB : ByteArray := ⟨#[32]⟩
def nlBt : ByteArray := ⟨#[10]⟩
def kindS (k : Int) : ByteArray := if k = 0 then ⟨#[110]⟩ else if k = 1 then ⟨#[112]⟩ else ⟨#[114]⟩
/-- A port's line behind a text. -/
def fmtP (s : ByteArray) (p : Pt) : ByteArray := s ++ ⟨#[112, 111, 114, 116, 32]⟩ ++ p.name ++ spB ++ numS p.net.toNat ++ nlBt
def fmtN (s : ByteArray) (z : Int) : ByteArray := s ++ spB ++ numS z.toNat
/-- A device's line behind a text. -/
def fmtD (s : ByteArray) (d : Dv) : ByteArray := (d.pins.foldl fmtN (s ++ kindS d.kind)) ++ spB ++ numS d.wd.toNat ++ spB ++ numS d.len.toNat ++ nlBt
def fmt0 (x : Nl) : ByteArray := (⟨#[110, 101, 116, 115, 32]⟩ : ByteArray) ++ numS x.nets.toNat ++ nlBt
/-- The text of a netlist. -/
def fmtS (x : Nl) : ByteArray := if nlB x = true then x.ds.foldl fmtD (x.ps.foldl fmtP (fmt0 x)) else ⟨#[]⟩
theorem fmtS_no {x : Nl} (h : nlB x = false) : fmtS x = ⟨#[]⟩ := by simp [fmtS, h]
theorem fmtS_yes {x : Nl} (h : nlB x = true) : fmtS x = x.ds.foldl fmtD (x.ps.foldl fmtP (fmt0 x)) := by simp [fmtS, h]
theorem foldl_step {α β : Type} (f : β → α → β) (s : β) (xs : List α) (k : Nat) (x : α) (h : xs[k]? = some x) : (xs.take (k + 1)).foldl f s = f ((xs.take k).foldl f s) x := by
  rw [take_snoc_of xs k x h, List.foldl_append]; rfl
theorem size_spB : spB.size = 1 := rfl
theorem size_nlBt : nlBt.size = 1 := rfl
theorem size_kindS (k : Int) : (kindS k).size = 1 := by unfold kindS; split; rfl; split <;> rfl
theorem size_fmtP (s : ByteArray) (p : Pt) (hn : p.name.size ≤ 8) (h : 0 ≤ p.net ∧ p.net ≤ 24) : (fmtP s p).size ≤ s.size + 100 := by
  have := size_numS p.net.toNat
  unfold fmtP
  simp only [ByteArray.size_append, size_spB, size_nlBt]
  have e : (ByteArray.mk #[112, 111, 114, 116, 32]).size = 5 := rfl
  omega
theorem size_fmtN (s : ByteArray) (z : Int) (h : 0 ≤ z ∧ z ≤ 24) : (fmtN s z).size ≤ s.size + 30 := by
  have := size_numS z.toNat
  unfold fmtN
  simp only [ByteArray.size_append, size_spB]
  omega
theorem size_pins (zs : List Int) (s : ByteArray) (h : ∀ z ∈ zs, 0 ≤ z ∧ z ≤ 24) : (zs.foldl fmtN s).size ≤ s.size + 30 * zs.length := by
  induction zs generalizing s with
  | nil => simp
  | cons z zs ih =>
    have h1 := ih (fmtN s z) (fun y hy => h y (List.mem_cons_of_mem _ hy))
    have h2 := size_fmtN s z (h z List.mem_cons_self)
    simp only [List.foldl_cons, List.length_cons]
    omega
theorem size_fmtD (s : ByteArray) (d : Dv) (hp : ∀ z ∈ d.pins, 0 ≤ z ∧ z ≤ 24) (hl : d.pins.length ≤ 3) (hw : 0 ≤ d.wd ∧ d.wd ≤ 1000000) (hg : 0 ≤ d.len ∧ d.len ≤ 1000000) : (fmtD s d).size ≤ s.size + 3000000 := by
  have h1 := size_numS d.wd.toNat
  have h2 := size_numS d.len.toNat
  have h3 := size_pins d.pins (s ++ kindS d.kind) hp
  unfold fmtD
  simp only [ByteArray.size_append, size_spB, size_nlBt, size_kindS] at *
  omega
theorem size_ports (ps : List Pt) (s : ByteArray) (h : ∀ p ∈ ps, p.name.size ≤ 8 ∧ 0 ≤ p.net ∧ p.net ≤ 24) : (ps.foldl fmtP s).size ≤ s.size + 100 * ps.length := by
  induction ps generalizing s with
  | nil => simp
  | cons p ps ih =>
    have h1 := ih (fmtP s p) (fun y hy => h y (List.mem_cons_of_mem _ hy))
    have h2 := size_fmtP s p (h p List.mem_cons_self).1 (h p List.mem_cons_self).2
    simp only [List.foldl_cons, List.length_cons]
    omega
theorem size_devs (ds : List Dv) (s : ByteArray) (h : ∀ d ∈ ds, (∀ z ∈ d.pins, 0 ≤ z ∧ z ≤ 24) ∧ d.pins.length ≤ 3 ∧ (0 ≤ d.wd ∧ d.wd ≤ 1000000) ∧ (0 ≤ d.len ∧ d.len ≤ 1000000)) : (ds.foldl fmtD s).size ≤ s.size + 3000000 * ds.length := by
  induction ds generalizing s with
  | nil => simp
  | cons d ds ih =>
    have h1 := ih (fmtD s d) (fun y hy => h y (List.mem_cons_of_mem _ hy))
    obtain ⟨q1, q2, q3, q4⟩ := h d List.mem_cons_self
    have h2 := size_fmtD s d q1 q2 q3 q4
    simp only [List.foldl_cons, List.length_cons]
    omega
end Go.Proofs.YtglddnkpccgchaaDoor

/- The text of a netlist, the reference's. -/
namespace Go.Proofs.YtglddnkpccgchaaDoor
open Go.RowKit
set_option linter.unusedVariables false
set_option linter.unusedSimpArgs false

/-- Two texts behind one another, in whatever world. -/
def Adds (a b c : ByteArray) : Prop := ∀ w : World, (Op.stringOp .add a b).run Tryd.prog w = .ok (.string c) w
theorem adds (a b : ByteArray) (h : a.size + b.size ≤ 1000000000) : Adds a b (a ++ b) := fun w => run_string_add_sum w a b (by omega)

set_option maxRecDepth 100000 in
set_option maxHeartbeats 4000000 in
theorem specFormat_any (x : Nl) (v : Value) (w : World) (h : NlV w v x) (hok : ∀ p ∈ x.ps, p.ok) (hnn : Fits x.nets) :
    Calls Tryd.prog 7 #[v] w fun e w' => e = .returned (.string (fmtS x)) ∧ Below w.heap.size w w' := by
  have HV := Lib.hid (fun v w h => specNl_any x v w h hok hnn)
  have HN := Lib.hid h
  cases hv : nlB x with
  | false =>
    rw [fmtS_no hv]
    rw [hv] at HV
    obtain ⟨a, c, a', c', rfl⟩ := h.sized
    clear h hok hv
    go_enter Tryd.func7, Tryd.ntmps7
    go_wp2_with (go_at_call 17; refine (HV.out _ _ (HN.out.by (by ((repeat (first | (with_reducible exact Below.refl _ _) | (with_reducible refine below_drewN ?_ _) | (with_reducible refine Below.drew ?_) | (with_reducible refine below_al ?_ _) | (with_reducible refine below_on (by assumption) ?_) | ((with_reducible refine Below.setCell ?_ ?_ _); rotate_left; focus (first | omega | (simp; done) | (simp; omega))) | (with_reducible assumption))); done)))).mono ?_; rintro e w1 ⟨rfl, hb1⟩)
    go_ret
    exact ⟨rfl, (by ((repeat (first | (with_reducible exact Below.refl _ _) | (with_reducible refine below_drewN ?_ _) | (with_reducible refine Below.drew ?_) | (with_reducible refine below_al ?_ _) | (with_reducible refine below_on (by assumption) ?_) | ((with_reducible refine Below.setCell ?_ ?_ _); rotate_left; focus (first | omega | (simp; done) | (simp; omega))) | (with_reducible assumption))); done))⟩
  | true =>
    rw [fmtS_yes hv]
    rw [hv] at HV
    obtain ⟨⟨n0, n24⟩, hl24, hp8, hdv, hpt⟩ := nlB_facts hv
    have HDV := Lib.hid hdv
    have hpn : ∀ p ∈ x.ps, p.name.size ≤ 8 ∧ 0 ≤ p.net ∧ p.net ≤ 24 := fun p hp => by
      obtain ⟨i, hi, e⟩ := List.getElem_of_mem hp
      have h1 := hpt i hi
      unfold ptOk at h1
      rw [List.getElem?_eq_getElem hi, e] at h1
      simp only [Bool.and_eq_true] at h1
      have h2 := inB_iff.1 h1.2.1
      refine ⟨?_, by omega, by omega⟩
      have h3 := h1.1
      unfold nameB at h3
      rw [Bool.and_eq_true, decide_eq_true_eq] at h3
      exact h3.2.2
    have HPN := Lib.hid hpn
    have HL := Lib.hid (fun (z : Int) (h0 : 0 ≤ z) (h1 : z ≤ 1000000) (w : World) => show Calls Tryd.prog 23 #[.int .i64 z] w fun e w' => e = .returned (.string (numS z.toNat)) ∧ Below w.heap.size w w' from by
      obtain ⟨q, rfl⟩ := Int.eq_ofNat_of_zero_le h0
      exact l16Number_any q (by omega) w)
    obtain ⟨s1, s2, rfl, hd, hp⟩ := h
    have HD := Lib.hid hd
    have HP := Lib.hid hp
    obtain ⟨a1, c1, rfl⟩ := hd.sized
    obtain ⟨a2, c2, rfl⟩ := hp.sized
    have hf0 : (fmt0 x).size ≤ 100 := by
      have := size_numS x.nets.toNat
      unfold fmt0
      simp only [ByteArray.size_append, size_nlBt]
      have e : (ByteArray.mk #[110, 101, 116, 115, 32]).size = 5 := rfl
      omega
    have HF0 := Lib.hid hf0
    obtain ⟨M, hM⟩ : ∃ M, numS x.nets.toNat = M := ⟨_, rfl⟩
    have hMs : M.size ≤ 30 := by rw [← hM]; have := size_numS x.nets.toNat; omega
    obtain ⟨A1, hA1⟩ : ∃ A, (⟨#[110, 101, 116, 115, 32]⟩ : ByteArray) ++ M = A := ⟨_, rfl⟩
    have z5 : (ByteArray.mk #[110, 101, 116, 115, 32]).size = 5 := rfl
    have z1 : (ByteArray.mk #[10]).size = 1 := rfl
    have ha1 := adds ⟨#[110, 101, 116, 115, 32]⟩ M (by omega)
    rw [hA1] at ha1
    obtain ⟨A2, hA2⟩ : ∃ A, fmt0 x = A := ⟨_, rfl⟩
    have ha2 : Adds A1 ⟨#[10]⟩ A2 := by
      have := adds A1 ⟨#[10]⟩ (by rw [← hA1, ByteArray.size_append]; omega)
      rw [← hA2]
      unfold fmt0
      rw [hM, hA1]
      exact this
    unfold Adds at ha1 ha2
    have HA2 := Lib.hid hA2
    have hc := HL.out x.nets n0 (by omega)
    rw [hM] at hc
    have HC := Lib.hid hc
    clear hd hp hok hv hdv hpt hpn hf0 hM hA1 hA2 hc z5 z1
    go_enter Tryd.func7, Tryd.ntmps7
    go_wp2_with fail
    refine (HV.out _ _ (HN.out.by (by ((repeat (first | (with_reducible exact Below.refl _ _) | (with_reducible refine below_drewN ?_ _) | (with_reducible refine Below.drew ?_) | (with_reducible refine below_al ?_ _) | (with_reducible refine below_on (by assumption) ?_) | ((with_reducible refine Below.setCell ?_ ?_ _); rotate_left; focus (first | omega | (simp; done) | (simp; omega))) | (with_reducible assumption))); done)))).mono ?_
    rintro e w1 ⟨rfl, hb1⟩
    have k0 : Blk w1 w.heap.size #[.int .i64 x.nets, .slice a1 x.ds.length c1, .slice a2 x.ps.length c2] 31 := (by ((repeat (first | (with_reducible assumption) | (with_reducible refine Blk.drewN ?_ _) | (with_reducible refine Blk.drew ?_) | ((with_reducible refine Blk.new _ ?_); focus (first | omega | (simp; done) | (simp; omega))) | (with_reducible refine Blk.past ?_ _) | ((with_reducible refine Blk.apart ?_ _ _ _ ?_); rotate_left; focus (first | omega | (simp; done) | (simp; omega))) | (with_reducible refine Blk.by (by assumption) ?_))); done))
    have hb : Below w.heap.size w w1 := (by ((repeat (first | (with_reducible exact Below.refl _ _) | (with_reducible refine below_drewN ?_ _) | (with_reducible refine Below.drew ?_) | (with_reducible refine below_al ?_ _) | (with_reducible refine below_on (by assumption) ?_) | ((with_reducible refine Below.setCell ?_ ?_ _); rotate_left; focus (first | omega | (simp; done) | (simp; omega))) | (with_reducible assumption))); done))
    have c0 := k0.cell
    have l0 := k0.lt
    clear hb1
    go_wp2_with fail
    refine (HC.out _).mono ?_
    rintro e w2 ⟨rfl, hb2⟩
    replace k0 := Blk.by hb2 k0
    replace hb := below_on hb2 hb
    replace c0 := k0.cell
    replace l0 := k0.lt
    clear hb2
    have HP2 := Lib.hid (HP.out.by hb)
    have HD2 := Lib.hid (HD.out.by hb)
    have hFP := fun k (hk : k ≤ x.ps.length) => size_ports (x.ps.take k) (fmt0 x) (fun q hq => HPN.out q (List.mem_of_mem_take hq))
    have HFP := Lib.hid hFP
    clear hFP HP HD HV HC
    go_wp2
    rw [← HA2.out]
    clear ha1 ha2
    go_loopw [3, 4] (fun vs vi wr => ∃ k : Nat, k ≤ x.ps.length ∧ vs = .string ((x.ps.take k).foldl fmtP (fmt0 x)) ∧ vi = .int .i64 k ∧ Below w2.heap.size w2 wr) (fun _ vi _ => x.ps.length - (intOf vi).toNat)
    case atStart => exact ⟨0, Nat.zero_le _, by simp, rfl, Below.refl _ _⟩
    case round =>
      obtain ⟨k, hk, rfl, rfl, hbr⟩ := hrel
      have k0r := Blk.by hbr k0
      have c0r := k0r.cell
      have l0r := k0r.lt
      clear c0 l0
      by_cases hlt : k < x.ps.length
      · as_aux_lemma =>
        obtain ⟨p, hp⟩ : ∃ p, x.ps[k]? = some p := ⟨_, List.getElem?_eq_getElem hlt⟩
        have hps := HP2.out
        rcases hps with ⟨_, _, _, h0⟩ | ⟨b, off, cap, eg, hcap, hmax, hel⟩
        · rw [h0] at hlt; simp at hlt
        obtain ⟨rfl, rfl⟩ : a2 = some ⟨b, off, none⟩ ∧ c2 = cap := by simpa using eg
        obtain ⟨u1, u2⟩ := hel k p hp
        have p1 := cell_by' hbr u1
        have p2 := cell_by' hbr u2
        have hst := foldl_step fmtP (fmt0 x) x.ps k p hp
        have hsz := HFP.out k hk
        have hlk : (x.ps.take k).length ≤ 8 := by rw [List.length_take]; omega
        obtain ⟨S, hS⟩ : ∃ S, (x.ps.take k).foldl fmtP (fmt0 x) = S := ⟨_, rfl⟩
        rw [hS] at hst hsz ⊢
        obtain ⟨q1, q2, q3⟩ := HPN.out p (List.mem_of_getElem? hp)
        have hSs : S.size ≤ 1000 := by have := HF0.out; omega
        obtain ⟨M2, hM2⟩ : ∃ M, numS p.net.toNat = M := ⟨_, rfl⟩
        have hM2s : M2.size ≤ 30 := by rw [← hM2]; have := size_numS p.net.toNat; omega
        have z5 : (ByteArray.mk #[112, 111, 114, 116, 32]).size = 5 := rfl
        have z1 : (ByteArray.mk #[32]).size = 1 := rfl
        have z2 : (ByteArray.mk #[10]).size = 1 := rfl
        obtain ⟨T1, hT1⟩ : ∃ T, S ++ ⟨#[112, 111, 114, 116, 32]⟩ = T := ⟨_, rfl⟩
        obtain ⟨T2, hT2⟩ : ∃ T, T1 ++ p.name = T := ⟨_, rfl⟩
        obtain ⟨T3, hT3⟩ : ∃ T, T2 ++ ⟨#[32]⟩ = T := ⟨_, rfl⟩
        obtain ⟨T4, hT4⟩ : ∃ T, T3 ++ M2 = T := ⟨_, rfl⟩
        obtain ⟨T5, hT5⟩ : ∃ T, T4 ++ ⟨#[10]⟩ = T := ⟨_, rfl⟩
        have t1 : T1.size = S.size + 5 := by rw [← hT1, ByteArray.size_append, z5]
        have t2 : T2.size = T1.size + p.name.size := by rw [← hT2, ByteArray.size_append]
        have t3 : T3.size = T2.size + 1 := by rw [← hT3, ByteArray.size_append, z1]
        have t4 : T4.size = T3.size + M2.size := by rw [← hT4, ByteArray.size_append]
        have a1' := adds S ⟨#[112, 111, 114, 116, 32]⟩ (by omega)
        have a2' := adds T1 p.name (by omega)
        have a3' := adds T2 ⟨#[32]⟩ (by omega)
        have a4' := adds T3 M2 (by omega)
        have a5' := adds T4 ⟨#[10]⟩ (by omega)
        rw [hT1] at a1'
        rw [hT2] at a2'
        rw [hT3] at a3'
        rw [hT4] at a4'
        rw [hT5] at a5'
        have hfin : fmtP S p = T5 := by
          unfold fmtP spB nlBt
          rw [hT1, hT2, hT3, hM2, hT4, hT5]
        rw [hfin] at hst
        have HST := Lib.hid hst
        have hc := HL.out p.net q2 (by omega)
        rw [hM2] at hc
        have HC := Lib.hid hc
        unfold Adds at a1' a2' a3' a4' a5'
        have i1 : (0 : Int) ≤ (k : Int) := by omega
        have i2 : (k : Int) < (x.ps.length : Int) := by omega
        have f0 : wr.cell? ⟨w.heap.size, 2, none⟩ = some (.slice (some ⟨b, off, none⟩) x.ps.length c2) := c0r 2
        have hbl := lt_of_cell p1
        dsimp only at hbl
        have HSB : ∀ w' : World, Below wr.heap.size wr w' → (fun w' => w'.cell? ⟨w.heap.size, 2, none⟩ = some (.slice (some ⟨b, off, none⟩) x.ps.length c2) ∧ w'.cell? ⟨b, off + k * 2, none⟩ = some (.string p.name) ∧ w'.cell? ⟨b, off + k * 2 + 1, none⟩ = some (.int .i64 p.net) ∧ Below wr.heap.size wr w') w' := fun w' hb => ⟨cell_by' hb f0, cell_by' hb p1, cell_by' hb p2, hb⟩
        generalize p.name = NM at *
        generalize p.net = NT at *
        clear hst hc hfin hT1 hT2 hT3 hT4 hT5 t1 t2 t3 t4 hS hM2 hM2s hSs hsz z5 z1 z2 hel eg u1 u2 hp q1 q2 q3 c0r hlk
        go_wp2_with fail
        go_region_held3 (fun w' => w'.cell? ⟨w.heap.size, 2, none⟩ = some (.slice (some ⟨b, off, none⟩) x.ps.length c2) ∧ w'.cell? ⟨b, off + k * 2, none⟩ = some (.string NM) ∧ w'.cell? ⟨b, off + k * 2 + 1, none⟩ = some (.int .i64 NT) ∧ Below wr.heap.size wr w') (((try (obtain ⟨_, _, _, hSB⟩ := hHeld)); refine HSB _ ?_; ((repeat (first | (with_reducible exact Below.refl _ _) | (with_reducible refine below_drewN ?_ _) | (with_reducible refine Below.drew ?_) | (with_reducible refine below_al ?_ _) | (with_reducible refine below_on (by assumption) ?_) | ((with_reducible refine Below.setCell ?_ ?_ _); rotate_left; focus (first | omega | (simp; done) | (simp; omega))) | (with_reducible assumption))); done)))
          (first | (go_at_call 23; refine (HC.out _).mono ?_; rintro e w3 ⟨rfl, hb3⟩))
        all_goals
          have hb4 : Below wr.heap.size wr w3 := (by ((repeat (first | (with_reducible exact Below.refl _ _) | (with_reducible refine below_drewN ?_ _) | (with_reducible refine Below.drew ?_) | (with_reducible refine below_al ?_ _) | (with_reducible refine below_on (by assumption) ?_) | ((with_reducible refine Below.setCell ?_ ?_ _); rotate_left; focus (first | omega | (simp; done) | (simp; omega))) | (with_reducible assumption))); done))
          go_wp2_with fail
          exact ⟨⟨k + 1, by omega, by rw [HST.out], by go_num, below_on hb4 hbr⟩, by simp [intOf]; omega⟩
      · obtain rfl : k = x.ps.length := by omega
        rw [List.take_length]
        have hPS := size_ports x.ps (fmt0 x) (fun q hq => HPN.out q hq)
        have hB0 : (x.ps.foldl fmtP (fmt0 x)).size ≤ 1000 := by have := HF0.out; omega
        obtain ⟨B, hBB⟩ : ∃ B, x.ps.foldl fmtP (fmt0 x) = B := ⟨_, rfl⟩
        rw [hBB] at hB0 ⊢
        have HBB := Lib.hid hBB
        have HB0 := Lib.hid hB0
        have hFD := fun k (hk : k ≤ x.ds.length) => size_devs (x.ds.take k) B (fun q hq => by
          have hm := HDV.out q (List.mem_of_mem_take hq)
          have h1 := dvB_pins hm
          obtain ⟨_, _, g3, g4, _, _⟩ := dvB_all hm
          have g5 := inB_iff.1 g3
          have g6 := inB_iff.1 g4
          exact ⟨fun z hz => by have := h1.2.2 z hz; omega, h1.1, by omega, by omega⟩)
        have HFD := Lib.hid hFD
        have i3 : ¬ (x.ps.length : Int) < (x.ps.length : Int) := by omega
        obtain ⟨wo, rfl⟩ : ∃ wo, wo = wr := ⟨_, rfl⟩
        clear hPS hB0 hBB hFD HFP
        go_wp2
        go_loopw [3, 5] (fun vs vi wr => ∃ k : Nat, k ≤ x.ds.length ∧ vs = .string ((x.ds.take k).foldl fmtD B) ∧ vi = .int .i64 k ∧ Below w2.heap.size w2 wr) (fun _ vi _ => x.ds.length - (intOf vi).toNat)
        case atStart => exact ⟨0, Nat.zero_le _, by simp, rfl, hbr⟩
        case round =>
          clear hbr k0r c0r l0r
          obtain ⟨k, hk, rfl, rfl, hbr⟩ := hrel
          have k0r := Blk.by hbr k0
          have c0r := k0r.cell
          have l0r := k0r.lt
          by_cases hlt : k < x.ds.length
          · obtain ⟨D, hD⟩ : ∃ D, x.ds[k]? = some D := ⟨_, List.getElem?_eq_getElem hlt⟩
            have hds := HD2.out
            rcases hds with ⟨_, _, _, h0⟩ | ⟨b, off, cap, eg, hcap, hmax, hel⟩
            · rw [h0] at hlt; simp at hlt
            obtain ⟨rfl, rfl⟩ : a1 = some ⟨b, off, none⟩ ∧ c1 = cap := by simpa using eg
            obtain ⟨pv, u1, u2, u3, u4, hpv0⟩ := hel k D hD
            have p1 := cell_by' hbr u1
            have p2 := cell_by' hbr u2
            have p3 := cell_by' hbr u3
            have p4 := cell_by' hbr u4
            have hpv := hpv0.by hbr
            obtain ⟨ap, cp, rfl⟩ := hpv.len
            have HPV := Lib.hid hpv
            have hm := HDV.out D (List.mem_of_getElem? hD)
            have hst := foldl_step fmtD B x.ds k D hD
            have hsz := HFD.out k hk
            have hlk : (x.ds.take k).length ≤ 24 := by rw [List.length_take]; omega
            obtain ⟨S, hS⟩ : ∃ S, (x.ds.take k).foldl fmtD B = S := ⟨_, rfl⟩
            rw [hS] at hst hsz ⊢
            have hSs : S.size ≤ 100000000 := by have := HB0.out; omega
            have HST := Lib.hid hst
            have HM := Lib.hid hm
            have i1 : (0 : Int) ≤ (k : Int) := by omega
            have i2 : (k : Int) < (x.ds.length : Int) := by omega
            have hbl := lt_of_cell p1
            dsimp only at hbl
            clear hel eg u1 u2 u3 u4 hD hpv hpv0 hst hm hsz hS hlk
            go_upto_region 12 with fail
            obtain ⟨E, hE⟩ : ∃ E, wr.heap.size = E := ⟨_, rfl⟩
            obtain ⟨w7, hw7⟩ : ∃ q, q = wr.alloc (.cells #[.int .i64 D.kind, .slice ap D.pins.length cp, .int .i64 D.wd, .int .i64 D.len] 52) := ⟨_, rfl⟩
            have hal : Below wr.heap.size wr w7 := by rw [hw7]; exact (Below.refl _ wr).alloc (Nat.le_refl _) _
            have kE7 : Blk w7 E #[.int .i64 D.kind, .slice ap D.pins.length cp, .int .i64 D.wd, .int .i64 D.len] 52 := by rw [hw7]; exact Blk.new _ hE.symm
            have HPV7 := Lib.hid (HPV.out.by hal)
            have hb7 := below_on hal hbr
            rw [← hw7]
            (try rw [hE])
            clear hw7 hal k0r c0r l0r p1 p2 p3 p4 hbl HPV hbr hE
            obtain ⟨g1, g2, g3, g4, g5, g6⟩ := dvB_all HM.out
            have hkb := inB_iff.1 g1
            have hkk : D.kind = 0 ∨ D.kind = 1 ∨ D.kind = 2 := by omega
            have hwb := inB_iff.1 g3
            have hlb := inB_iff.1 g4
            have hpb := dvB_pins HM.out
            have HPB := Lib.hid (show D.pins.length ≤ 3 ∧ ∀ z ∈ D.pins, 0 ≤ z ∧ z ≤ 24 from ⟨hpb.1, fun z hz => by have := hpb.2.2 z hz; omega⟩)
            clear g1 g2 g3 g4 g5 g6 hpb hkb
            go_cut [3] (fun vs wx => vs = .string (S ++ kindS D.kind) ∧ Below w7.heap.size w7 wx)
            case first => as_aux_lemma =>
              rcases hkk with hk3 | hk3 | hk3
              · have z1 : (ByteArray.mk #[110]).size = 1 := rfl
                have hadd := adds S ⟨#[110]⟩ (by omega)
                unfold Adds at hadd
                have hks : kindS D.kind = ⟨#[110]⟩ := by rw [hk3]; rfl
                have HKS := Lib.hid hks
                have HK3 := Lib.hid hk3
                rw [hk3] at kE7
                have cE := kE7.cell
                have lE := kE7.lt
                clear hks hk3 z1
                go_wp2_with fail
                all_goals (try go_meet)
                exact ⟨by rw [HKS.out], (by ((repeat (first | (with_reducible exact Below.refl _ _) | (with_reducible refine below_drewN ?_ _) | (with_reducible refine Below.drew ?_) | (with_reducible refine below_al ?_ _) | (with_reducible refine below_on (by assumption) ?_) | ((with_reducible refine Below.setCell ?_ ?_ _); rotate_left; focus (first | omega | (simp; done) | (simp; omega))) | (with_reducible assumption))); done))⟩
              · have z1 : (ByteArray.mk #[112]).size = 1 := rfl
                have hadd := adds S ⟨#[112]⟩ (by omega)
                unfold Adds at hadd
                have hks : kindS D.kind = ⟨#[112]⟩ := by rw [hk3]; rfl
                have HKS := Lib.hid hks
                have HK3 := Lib.hid hk3
                rw [hk3] at kE7
                have cE := kE7.cell
                have lE := kE7.lt
                clear hks hk3 z1
                go_wp2_with fail
                all_goals (try go_meet)
                exact ⟨by rw [HKS.out], (by ((repeat (first | (with_reducible exact Below.refl _ _) | (with_reducible refine below_drewN ?_ _) | (with_reducible refine Below.drew ?_) | (with_reducible refine below_al ?_ _) | (with_reducible refine below_on (by assumption) ?_) | ((with_reducible refine Below.setCell ?_ ?_ _); rotate_left; focus (first | omega | (simp; done) | (simp; omega))) | (with_reducible assumption))); done))⟩
              · have z1 : (ByteArray.mk #[114]).size = 1 := rfl
                have hadd := adds S ⟨#[114]⟩ (by omega)
                unfold Adds at hadd
                have hks : kindS D.kind = ⟨#[114]⟩ := by rw [hk3]; rfl
                have HKS := Lib.hid hks
                have HK3 := Lib.hid hk3
                rw [hk3] at kE7
                have cE := kE7.cell
                have lE := kE7.lt
                clear hks hk3 z1
                go_wp2_with fail
                all_goals (try go_meet)
                exact ⟨by rw [HKS.out], (by ((repeat (first | (with_reducible exact Below.refl _ _) | (with_reducible refine below_drewN ?_ _) | (with_reducible refine Below.drew ?_) | (with_reducible refine below_al ?_ _) | (with_reducible refine below_on (by assumption) ?_) | ((with_reducible refine Below.setCell ?_ ?_ _); rotate_left; focus (first | omega | (simp; done) | (simp; omega))) | (with_reducible assumption))); done))⟩
            case rest => as_aux_lemma =>
              obtain ⟨rfl, hbc⟩ := hcut
              have hSK : (S ++ kindS D.kind).size ≤ 100000001 := by rw [ByteArray.size_append, size_kindS]; omega
              obtain ⟨K, hK⟩ : ∃ K, S ++ kindS D.kind = K := ⟨_, rfl⟩
              rw [hK] at hSK ⊢
              have HK := Lib.hid hK
              have hFN := fun j => size_pins (D.pins.take j) K (fun z hz => HPB.out.2 z (List.mem_of_mem_take hz))
              have HFN := Lib.hid hFN
              have HSK := Lib.hid hSK
              clear hK hFN hSK hkk
              go_wp2_with fail
              go_loopw [3, 7] (fun vs vi wr => ∃ j : Nat, j ≤ D.pins.length ∧ vs = .string ((D.pins.take j).foldl fmtN K) ∧ vi = .int .i64 j ∧ Below w7.heap.size w7 wr) (fun _ vi _ => D.pins.length - (intOf vi).toNat)
              case atStart => exact ⟨0, Nat.zero_le _, by simp, rfl, hbc⟩
              case round =>
                clear hbc
                obtain ⟨j, hj, rfl, rfl, hbj⟩ := hrel
                have kEj := Blk.by hbj kE7
                have cEj := kEj.cell
                have lEj := kEj.lt
                by_cases hjt : j < D.pins.length
                · as_aux_lemma =>
                  obtain ⟨z, hz⟩ : ∃ z, D.pins[j]? = some z := ⟨_, List.getElem?_eq_getElem hjt⟩
                  have hps := HPV7.out
                  rcases hps with ⟨_, _, eg0, h0⟩ | ⟨b3, off3, cap3, eg3, hcap3, hmax3, hel3⟩
                  · rw [h0] at hjt; simp at hjt
                  obtain ⟨rfl, rfl⟩ : ap = some ⟨b3, off3, none⟩ ∧ cp = cap3 := by simpa using eg3
                  have p3 := cell_by' hbj (hel3 j z hz)
                  have hst := foldl_step fmtN K D.pins j z hz
                  have hsz := HFN.out j
                  have hl3 := HPB.out.1
                  have hlj : (D.pins.take j).length ≤ 3 := by rw [List.length_take]; omega
                  obtain ⟨q1, q2⟩ := HPB.out.2 z (List.mem_of_getElem? hz)
                  have hkk := HSK.out
                  obtain ⟨S2, hS2⟩ : ∃ S, (D.pins.take j).foldl fmtN K = S := ⟨_, rfl⟩
                  rw [hS2] at hst hsz ⊢
                  obtain ⟨M2, hM2⟩ : ∃ M, numS z.toNat = M := ⟨_, rfl⟩
                  have hM2s : M2.size ≤ 30 := by rw [← hM2]; have := size_numS z.toNat; omega
                  have z1 : (ByteArray.mk #[32]).size = 1 := rfl
                  obtain ⟨T1, hT1⟩ : ∃ T, S2 ++ ⟨#[32]⟩ = T := ⟨_, rfl⟩
                  obtain ⟨T2, hT2⟩ : ∃ T, T1 ++ M2 = T := ⟨_, rfl⟩
                  have t1 : T1.size = S2.size + 1 := by rw [← hT1, ByteArray.size_append, z1]
                  have a1' := adds S2 ⟨#[32]⟩ (by omega)
                  have a2' := adds T1 M2 (by omega)
                  rw [hT1] at a1'
                  rw [hT2] at a2'
                  have hfin : fmtN S2 z = T2 := by
                    unfold fmtN spB
                    rw [hT1, hM2, hT2]
                  rw [hfin] at hst
                  have HST2 := Lib.hid hst
                  have hc := HL.out z q1 (by omega)
                  rw [hM2] at hc
                  have HC := Lib.hid hc
                  unfold Adds at a1' a2'
                  have HJT := Lib.hid hjt
                  have j1 : (0 : Int) ≤ (j : Int) := by omega
                  have j2 : (j : Int) < (D.pins.length : Int) := by omega
                  have hbl := lt_of_cell p3
                  dsimp only at hbl
                  clear hst hc hfin hT1 hT2 t1 hS2 hM2 hM2s hsz z1 hel3 eg3 hz q1 q2 hlj hkk
                  go_wp2_with (go_at_call 23; refine (HC.out _).mono ?_; rintro e w3 ⟨rfl, hb3⟩)
                  exact ⟨⟨j + 1, by have := HJT.out; omega, by rw [HST2.out], by have := HPB.out.1; go_num, by have hb4 := below_on hb3 hbj; exact hb4⟩, by have := HPB.out.1; simp [intOf]; omega⟩
                · as_aux_lemma =>
                  obtain rfl : j = D.pins.length := by omega
                  rw [List.take_length]
                  have hsz := HFN.out D.pins.length
                  rw [List.take_length] at hsz
                  have hl3 := HPB.out.1
                  have hkk := HSK.out
                  have j3 : ¬ (D.pins.length : Int) < (D.pins.length : Int) := by omega
                  obtain ⟨R, hR⟩ : ∃ R, D.pins.foldl fmtN K = R := ⟨_, rfl⟩
                  rw [hR] at hsz ⊢
                  obtain ⟨MW, hMW⟩ : ∃ M, numS D.wd.toNat = M := ⟨_, rfl⟩
                  have hMWs : MW.size ≤ 1000005 := by rw [← hMW]; have := size_numS D.wd.toNat; omega
                  obtain ⟨ML, hML⟩ : ∃ M, numS D.len.toNat = M := ⟨_, rfl⟩
                  have hMLs : ML.size ≤ 1000005 := by rw [← hML]; have := size_numS D.len.toNat; omega
                  have z1 : (ByteArray.mk #[32]).size = 1 := rfl
                  have z2 : (ByteArray.mk #[10]).size = 1 := rfl
                  obtain ⟨T1, hT1⟩ : ∃ T, R ++ ⟨#[32]⟩ = T := ⟨_, rfl⟩
                  obtain ⟨T2, hT2⟩ : ∃ T, T1 ++ MW = T := ⟨_, rfl⟩
                  obtain ⟨T3, hT3⟩ : ∃ T, T2 ++ ⟨#[32]⟩ = T := ⟨_, rfl⟩
                  obtain ⟨T4, hT4⟩ : ∃ T, T3 ++ ML = T := ⟨_, rfl⟩
                  obtain ⟨T5, hT5⟩ : ∃ T, T4 ++ ⟨#[10]⟩ = T := ⟨_, rfl⟩
                  have t1 : T1.size = R.size + 1 := by rw [← hT1, ByteArray.size_append, z1]
                  have t2 : T2.size = T1.size + MW.size := by rw [← hT2, ByteArray.size_append]
                  have t3 : T3.size = T2.size + 1 := by rw [← hT3, ByteArray.size_append, z1]
                  have t4 : T4.size = T3.size + ML.size := by rw [← hT4, ByteArray.size_append]
                  have a1' := adds R ⟨#[32]⟩ (by omega)
                  have a2' := adds T1 MW (by omega)
                  have a3' := adds T2 ⟨#[32]⟩ (by omega)
                  have a4' := adds T3 ML (by omega)
                  have a5' := adds T4 ⟨#[10]⟩ (by omega)
                  rw [hT1] at a1'
                  rw [hT2] at a2'
                  rw [hT3] at a3'
                  rw [hT4] at a4'
                  rw [hT5] at a5'
                  have hfin : fmtD S D = T5 := by
                    unfold fmtD spB nlBt
                    rw [HK.out, hR, hT1, hMW, hT2, hT3, hML, hT4, hT5]
                  have hst := HST.out
                  rw [hfin] at hst
                  have HST3 := Lib.hid hst
                  have hcw := HL.out D.wd (by omega) (by omega)
                  rw [hMW] at hcw
                  have HCW := Lib.hid hcw
                  have hcl := HL.out D.len (by omega) (by omega)
                  rw [hML] at hcl
                  have HCL := Lib.hid hcl
                  unfold Adds at a1' a2' a3' a4' a5'
                  obtain ⟨f1, f2, f3, f4⟩ : wr.cell? ⟨E, 0, none⟩ = some (.int .i64 D.kind) ∧ wr.cell? ⟨E, 1, none⟩ = some (.slice ap D.pins.length cp) ∧ wr.cell? ⟨E, 2, none⟩ = some (.int .i64 D.wd) ∧ wr.cell? ⟨E, 3, none⟩ = some (.int .i64 D.len) := ⟨cEj 0, cEj 1, cEj 2, cEj 3⟩
                  have HSB : ∀ w' : World, Below wr.heap.size wr w' → (fun w' => w'.cell? ⟨E, 2, none⟩ = some (.int .i64 D.wd) ∧ w'.cell? ⟨E, 3, none⟩ = some (.int .i64 D.len) ∧ Below wr.heap.size wr w') w' := fun w' hb => ⟨cell_by' hb f3, cell_by' hb f4, hb⟩
                  generalize D.wd = WD at *
                  generalize D.len = LN at *
                  clear hst hcw hcl hfin hT1 hT2 hT3 hT4 hT5 t1 t2 t3 t4 hR hMW hMWs hML hMLs hsz z1 z2 hl3 hkk HL hwb hlb f1 f2
                  go_wp2_with fail
                  go_region_held3 (fun w' => w'.cell? ⟨E, 2, none⟩ = some (.int .i64 WD) ∧ w'.cell? ⟨E, 3, none⟩ = some (.int .i64 LN) ∧ Below wr.heap.size wr w') (((try (obtain ⟨_, _, hSB⟩ := hHeld)); refine HSB _ ?_; ((repeat (first | (with_reducible exact Below.refl _ _) | (with_reducible refine below_drewN ?_ _) | (with_reducible refine Below.drew ?_) | (with_reducible refine below_al ?_ _) | (with_reducible refine below_on (by assumption) ?_) | ((with_reducible refine Below.setCell ?_ ?_ _); rotate_left; focus (first | omega | (simp; done) | (simp; omega))) | (with_reducible assumption))); done)))
                    (first | (go_at_call_of 23 (Value.int .i64 WD); refine (HCW.out _).mono ?_; rintro e w3 ⟨rfl, hb3⟩) | (go_at_call_of 23 (Value.int .i64 LN); refine (HCL.out _).mono ?_; rintro e w4 ⟨rfl, hb4⟩))
                  all_goals
                    have hb5 : Below wr.heap.size wr w4 := (by ((repeat (first | (with_reducible exact Below.refl _ _) | (with_reducible refine below_drewN ?_ _) | (with_reducible refine Below.drew ?_) | (with_reducible refine below_al ?_ _) | (with_reducible refine below_on (by assumption) ?_) | ((with_reducible refine Below.setCell ?_ ?_ _); rotate_left; focus (first | omega | (simp; done) | (simp; omega))) | (with_reducible assumption))); done))
                    go_wp2_with fail
                    have hb6 := below_on hb5 (below_on hbj hb7)
                    exact ⟨⟨k + 1, by omega, by rw [HST3.out], by go_num, hb6⟩, by simp [intOf]; omega⟩
          · obtain rfl : k = x.ds.length := by omega
            rw [List.take_length]
            have i3 : ¬ (x.ds.length : Int) < (x.ds.length : Int) := by omega
            go_wp2
            go_ret
            exact ⟨by rw [HBB.out]; rfl, below_on hbr hb⟩
end Go.Proofs.YtglddnkpccgchaaDoor
