/- The program's text of a netlist is the reference's: the plain part. -/
import Derived.Test.YtglddnkpccgchaaDoorFmtS
import Derived.Lib.Join
import Derived.Lib.ItoaNum
namespace Go.Proofs.YtglddnkpccgchaaDoor
open Go.RowKit
set_option linter.unusedVariables false
set_option linter.unusedSimpArgs false

theorem ba_ext {a b : ByteArray} (h : a.data.toList = b.data.toList) : a = b := by
  cases a; cases b
  congr 1
  exact Array.toList_inj.1 h
theorem ba_app (a b : ByteArray) : (a ++ b).data.toList = a.data.toList ++ b.data.toList := by simp [ByteArray.data_append]
theorem numS_dec (n : Nat) : (numS n).data.toList = Go.Lib.decDigits n := by
  induction n using Nat.strongRecOn with
  | ind n ih =>
    by_cases h : n < 10
    · rw [numS_lt h, Go.Lib.decDigits, dif_pos h]
      unfold dig
      rw [strOfNums_data]
      simp only [List.map_cons, List.map_nil, Int.toNat_natCast]
    · rw [numS_ge h, ba_app, ih (n / 10) (by omega), numS_lt (show n % 10 < 10 by omega)]
      conv => rhs; rw [Go.Lib.decDigits, dif_neg h]
      congr 1
theorem itoa_numS (z : Int) (h : 0 ≤ z) : (⟨(Go.Lib.itoa z).toArray⟩ : ByteArray) = numS z.toNat := by
  apply ba_ext
  rw [numS_dec]
  unfold Go.Lib.itoa
  rw [if_neg (by omega)]
/-- strings.Join. -/
def jnB (xs : List ByteArray) (sep : ByteArray) : ByteArray := ⟨(Go.Lib.join (xs.map (·.data.toList)) sep.data.toList).toArray⟩
theorem jnB_data (xs : List ByteArray) (sep : ByteArray) : (jnB xs sep).data.toList = Go.Lib.join (xs.map (·.data.toList)) sep.data.toList := rfl
theorem join_end (s : List UInt8) : ∀ (r : List (List UInt8)) (x : List UInt8), Go.Lib.join (x :: r) s ++ s = ((x :: r).map (· ++ s)).flatten
  | [], x => by simp [Go.Lib.join_one]
  | y :: r, x => by
    have h := join_end s r y
    rw [Go.Lib.join_cons] at h ⊢
    simp only [Go.Lib.joinTail, List.map_cons, List.flatten_cons, List.append_assoc] at h ⊢
    rw [h]
def wNets : ByteArray := ⟨#[110, 101, 116, 115]⟩
def wPort : ByteArray := ⟨#[112, 111, 114, 116]⟩
def ln0 (z : Int) : ByteArray := jnB [wNets, numS z.toNat] spB
def lnP (p : Pt) : ByteArray := jnB [wPort, p.name, numS p.net.toNat] spB
def lnD (d : Dv) : ByteArray := jnB (kindS d.kind :: (d.pins ++ [d.wd, d.len]).map (fun z => numS z.toNat)) spB
def linesI (x : Nl) : List ByteArray := ln0 x.nets :: (x.ps.map lnP ++ x.ds.map lnD)
theorem fold_app {α : Type} (f : ByteArray → α → ByteArray) (g : α → ByteArray) (hf : ∀ s a, (f s a).data.toList = s.data.toList ++ (g a).data.toList) : ∀ (l : List α) (s : ByteArray), (l.foldl f s).data.toList = s.data.toList ++ (l.map (fun a => (g a).data.toList)).flatten
  | [], s => by simp
  | a :: l, s => by
    rw [List.foldl_cons, fold_app f g hf l, hf]
    simp
theorem fmtP_line (s : ByteArray) (p : Pt) : (fmtP s p).data.toList = s.data.toList ++ (lnP p ++ nlBt).data.toList := by
  unfold fmtP lnP
  simp only [ba_app, jnB_data, List.map_cons, List.map_nil, Go.Lib.join_cons, Go.Lib.joinTail, List.flatten_cons, List.flatten_nil, List.append_assoc]
  congr 1
theorem fmtN_line (s : ByteArray) (z : Int) : (fmtN s z).data.toList = s.data.toList ++ (spB ++ numS z.toNat).data.toList := by
  unfold fmtN
  simp only [ba_app, List.append_assoc]
theorem fmtD_line (s : ByteArray) (d : Dv) : (fmtD s d).data.toList = s.data.toList ++ (lnD d ++ nlBt).data.toList := by
  unfold fmtD lnD
  simp only [ba_app, jnB_data, List.map_cons, List.map_nil, Go.Lib.join_cons, Go.Lib.joinTail, List.flatten_cons, List.flatten_nil, List.append_assoc, fold_app fmtN (fun z => spB ++ numS z.toNat) fmtN_line, List.map_append, List.map_map, List.flatten_append, Function.comp_def]
  simp
theorem fmt0_line (x : Nl) : (fmt0 x).data.toList = (ln0 x.nets ++ nlBt).data.toList := by
  unfold fmt0 ln0
  simp only [ba_app, jnB_data, List.map_cons, List.map_nil, Go.Lib.join_cons, Go.Lib.joinTail, List.flatten_cons, List.flatten_nil, List.append_assoc]
  rfl
theorem fmtS_lines (x : Nl) : (x.ds.foldl fmtD (x.ps.foldl fmtP (fmt0 x))).data.toList = ((linesI x).map (fun l => (l ++ nlBt).data.toList)).flatten := by
  rw [fold_app fmtD (fun d => lnD d ++ nlBt) fmtD_line, fold_app fmtP (fun p => lnP p ++ nlBt) fmtP_line, fmt0_line]
  unfold linesI
  simp [List.map_append, Function.comp_def]
theorem fmtI (x : Nl) (h : nlB x = true) : jnB (linesI x) nlBt ++ nlBt = fmtS x := by
  apply ba_ext
  rw [fmtS_yes h, fmtS_lines, ba_app, jnB_data]
  unfold linesI
  rw [List.map_cons, join_end]
  simp [ba_app, Function.comp_def]
/-- Sizes. -/
theorem size_data (a : ByteArray) : a.data.toList.length = a.size := Array.length_toList
theorem jn_bound (xs : List ByteArray) (sep : ByteArray) (B : Nat) (hB : ∀ x ∈ xs, x.size ≤ B) : (Go.Lib.join (xs.map (·.data.toList)) sep.data.toList).length ≤ xs.length * (sep.size + B) := by
  cases xs with
  | nil => simp [Go.Lib.join_nil]
  | cons x r =>
    rw [List.map_cons, Go.Lib.join_cons, List.length_append, size_data]
    have h0 := hB x List.mem_cons_self
    have : ∀ (r : List ByteArray), (∀ x ∈ r, x.size ≤ B) → (Go.Lib.joinTail sep.data.toList (r.map (·.data.toList))).length ≤ r.length * (sep.size + B) := by
      intro r
      induction r with
      | nil => intro _; simp [Go.Lib.joinTail]
      | cons y r ih =>
        intro h
        have h1 := ih (fun z hz => h z (List.mem_cons_of_mem _ hz))
        have h2 := h y List.mem_cons_self
        simp only [Go.Lib.joinTail, List.map_cons, List.flatten_cons, List.length_append, size_data, List.length_cons, Nat.succ_mul] at h1 ⊢
        omega
    have h1 := this r (fun z hz => hB z (List.mem_cons_of_mem _ hz))
    simp only [List.length_cons, Nat.succ_mul]
    omega
end Go.Proofs.YtglddnkpccgchaaDoor
