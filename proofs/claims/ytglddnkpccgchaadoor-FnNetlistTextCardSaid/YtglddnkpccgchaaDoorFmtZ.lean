/- A netlist's text is short. -/
import Derived.Test.YtglddnkpccgchaaDoorPrsB
import Derived.Test.YtglddnkpccgchaaDoorValid0
namespace Go.Proofs.YtglddnkpccgchaaDoor
open Go.RowKit
set_option linter.unusedVariables false
set_option linter.unusedSimpArgs false

theorem size_num7 {n : Nat} (h : n ≤ 9999999) : (numS n).size ≤ 7 := by
  have h1 := len_dec n 7 (by omega) (by omega)
  have h2 := numS_dec n
  have h3 : (numS n).data.toList.length = (numS n).size := size_data _
  rw [h2] at h3
  omega
theorem fold_size {α : Type} (f : ByteArray → α → ByteArray) (c : Nat) : ∀ (xs : List α) (s : ByteArray), (∀ s x, x ∈ xs → (f s x).size ≤ s.size + c) → (xs.foldl f s).size ≤ s.size + xs.length * c
  | [], s, h => by simp
  | x :: xs, s, h => by
    rw [List.foldl_cons]
    have h1 := fold_size f c xs (f s x) (fun s y hy => h s y (List.mem_cons_of_mem _ hy))
    have h2 := h s x List.mem_cons_self
    simp only [List.length_cons, Nat.add_mul, Nat.one_mul]
    omega
theorem size_fmtS (x : Nl) : (fmtS x).size ≤ 10000 := by
  cases hB : nlB x with
  | false => rw [fmtS_no hB]; decide
  | true =>
    rw [fmtS_yes hB]
    obtain ⟨h1, h2, h3, h4, h5⟩ := nlB_facts hB
    have e0 : (fmt0 x).size ≤ 20 := by
      have := size_num7 (n := x.nets.toNat) (by omega)
      unfold fmt0
      simp only [ByteArray.size_append, size_nlBt]
      have : (⟨#[110, 101, 116, 115, 32]⟩ : ByteArray).size = 5 := rfl
      omega
    have hP : ∀ (s : ByteArray) (p : Pt), p ∈ x.ps → (fmtP s p).size ≤ s.size + 30 := fun s p hp => by
      obtain ⟨i, hi, e⟩ := List.getElem_of_mem hp
      have q := h5 i hi
      unfold ptOk at q
      rw [List.getElem?_eq_getElem hi, e] at q
      simp only [Bool.and_eq_true] at q
      have q1 := inB_iff.1 q.2.1
      have q2 := size_num7 (n := p.net.toNat) (by omega)
      have q3 : p.name.size ≤ 8 := by
        have h3 := q.1
        unfold nameB at h3
        rw [Bool.and_eq_true, decide_eq_true_eq] at h3
        omega
      unfold fmtP
      simp only [ByteArray.size_append, size_nlBt]
      have : (⟨#[112, 111, 114, 116, 32]⟩ : ByteArray).size = 5 := rfl
      have : spB.size = 1 := rfl
      omega
    have hN : ∀ (s : ByteArray) (z : Int), 0 ≤ z ∧ z ≤ 9999999 → (fmtN s z).size ≤ s.size + 8 := fun s z hz => by
      have q2 := size_num7 (n := z.toNat) (by omega)
      unfold fmtN
      simp only [ByteArray.size_append]
      have : spB.size = 1 := rfl
      omega
    have hD : ∀ (s : ByteArray) (d : Dv), d ∈ x.ds → (fmtD s d).size ≤ s.size + 100 := fun s d hd => by
      obtain ⟨g1, g2, g3, g4, g5, g6⟩ := dvB_all (h4 d hd)
      have p3 := (dvB_pins (h4 d hd)).1
      have pp := (dvB_pins (h4 d hd)).2.2
      have i3 := inB_iff.1 g3
      have i4 := inB_iff.1 g4
      have q2 := size_num7 (n := d.wd.toNat) (by omega)
      have q3 := size_num7 (n := d.len.toNat) (by omega)
      have q1 := fold_size fmtN 8 d.pins (s ++ kindS d.kind) (fun s z hz => hN s z (by have := pp z hz; omega))
      have q0 := size_kindS d.kind
      unfold fmtD
      simp only [ByteArray.size_append, size_nlBt] at q1 ⊢
      have : spB.size = 1 := rfl
      have : d.pins.length * 8 ≤ 3 * 8 := Nat.mul_le_mul_right _ p3
      omega
    have f1 := fold_size fmtP 30 x.ps (fmt0 x) hP
    have f2 := fold_size fmtD 100 x.ds (x.ps.foldl fmtP (fmt0 x)) hD
    omega
end Go.Proofs.YtglddnkpccgchaaDoor
