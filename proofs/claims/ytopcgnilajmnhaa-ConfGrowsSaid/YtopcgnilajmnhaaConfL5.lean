/-
  Layer 11: the law ConfGrows: the walk.
-/
import Derived.Test.YtopcgnilajmnhaaConfL4
set_option linter.unusedVariables false
set_option linter.unusedSimpArgs false
namespace Go.Proofs.Ytopcgnilajmnhaa
open Go.RowKit

/-! ### plain -/
theorem nthV_nth {P : List Int} {n : Nat} (hn : P.length = n) (h0 : 0 < n) : nthV n P = nthN P := by
  unfold nthV
  rw [if_neg (by omega), ← hn, pad_full]
theorem nth_ge {P : List Int} (h : 0 < P.length) {m : Int} (hm : ∀ x ∈ P, m ≤ x) : m ≤ nthN P := hm _ (nth_mem h)
theorem nth_le {P : List Int} (h : 0 < P.length) {m : Int} (hm : ∀ x ∈ P, x ≤ m) : nthN P ≤ m := hm _ (nth_mem h)
theorem nth_perm {P Q : List Int} (h : 0 < P.length) (hp : P.Perm Q) : nthN Q = nthN P := by
  have hl := hp.length_eq
  refine nth_unique (by omega) ?_ fun t ht => ?_
  · rw [← hl, ← cnt_perm hp]
    exact (nth_iff h _).1 (Int.le_refl _)
  · rw [← hl, ← cnt_perm hp] at ht
    exact (nth_iff h t).2 ht
theorem cnt_set {P : List Int} {i : Nat} (hi : i < P.length) {v : Int} (hv : P[i] ≤ v) (t : Int) : cntN P t ≤ cntN (P.set i v) t := by
  have h1 : P = P.take i ++ P[i] :: P.drop (i + 1) := by rw [List.getElem_cons_drop hi, List.take_append_drop]
  rw [List.set_eq_take_append_cons_drop, if_pos hi]
  conv => lhs; rw [h1]
  rw [cnt_append, cnt_append]
  unfold cntN
  rw [List.filter_cons, List.filter_cons]
  by_cases h : t ≤ P[i]
  · rw [if_pos (by simpa using h), if_pos (by simp; omega)]
    simp
  · rw [if_neg (by simpa using h)]
    split <;> simp
theorem nth_set {P : List Int} (h : 0 < P.length) {i : Nat} (hi : i < P.length) {v : Int} (hv : P[i] ≤ v) : nthN P ≤ nthN (P.set i v) := by
  rw [nth_iff (by rw [List.length_set]; exact h), List.length_set]
  exact Nat.le_trans ((nth_iff h _).1 (Int.le_refl _)) (cnt_set hi hv _)
def minL (P : List Int) (k : Nat) (a : Int) : Int := (P.take k).foldl min a
def maxL (P : List Int) (k : Nat) (a : Int) : Int := (P.take k).foldl max a
theorem minL_succ {P : List Int} {k : Nat} (hk : k < P.length) (a : Int) : minL P (k + 1) a = min (minL P k a) P[k] := by
  unfold minL
  rw [List.take_succ_eq_append_getElem hk, List.foldl_append]
  rfl
theorem maxL_succ {P : List Int} {k : Nat} (hk : k < P.length) (a : Int) : maxL P (k + 1) a = max (maxL P k a) P[k] := by
  unfold maxL
  rw [List.take_succ_eq_append_getElem hk, List.foldl_append]
  rfl
theorem minL_le (P : List Int) (a : Int) : ∀ k, k ≤ P.length → ∀ x ∈ P.take k, minL P k a ≤ x := by
  intro k
  induction k with
  | zero => intro _ x hx; simp at hx
  | succ k ih =>
    intro hk x hx
    rw [minL_succ (by omega)]
    rw [List.take_succ_eq_append_getElem (by omega), List.mem_append] at hx
    rcases hx with hx | hx
    · have := ih (by omega) x hx
      omega
    · simp at hx
      subst hx
      omega
theorem maxL_ge (P : List Int) (a : Int) : ∀ k, k ≤ P.length → ∀ x ∈ P.take k, x ≤ maxL P k a := by
  intro k
  induction k with
  | zero => intro _ x hx; simp at hx
  | succ k ih =>
    intro hk x hx
    rw [maxL_succ (by omega)]
    rw [List.take_succ_eq_append_getElem (by omega), List.mem_append] at hx
    rcases hx with hx | hx
    · have := ih (by omega) x hx
      omega
    · simp at hx
      subst hx
      omega
theorem nth_between (P : List Int) (a b : Int) (h : 0 < P.length) : minL P P.length a ≤ nthN P ∧ nthN P ≤ maxL P P.length b := by
  refine ⟨nth_ge h fun x hx => minL_le P a _ (Nat.le_refl _) x (by rwa [List.take_length]), nth_le h fun x hx => maxL_ge P b _ (Nat.le_refl _) x (by rwa [List.take_length])⟩
theorem rot_perm (P : List Int) (i : Nat) : P.Perm (P.drop i ++ P.take i) := by
  conv => lhs; rw [← List.take_append_drop i P]
  exact List.perm_append_comm
/-! ### the walk -/
/-- The place that a number tells, in whatever way. -/
def placeN (i : Int) (n : Nat) : Nat := ((i.tmod n + n).tmod n).toNat
theorem place_lt (i : Int) {n : Nat} (h : 0 < n) : placeN i n < n ∧ ((placeN i n : Nat) : Int) = (i.tmod n + n).tmod n := by
  unfold placeN
  have h1 := Int.tmod_lt_of_pos i (show (0 : Int) < (n : Int) by omega)
  have h2 := Int.lt_tmod_of_pos i (show (0 : Int) < (n : Int) by omega)
  have h3 := Int.tmod_lt_of_pos (i.tmod n + n) (show (0 : Int) < (n : Int) by omega)
  have h4 : 0 ≤ (i.tmod n + n).tmod n := Int.tmod_nonneg _ (by omega)
  omega
end Go.Proofs.Ytopcgnilajmnhaa
