/-
  Layer 11, plain: what a quorum reaches.
-/
import Derived.Test.YtopcgnilajmnhaaConf8
import Derived.Laws.CopyOwn
import Derived.OwnWalk
import Derived.Deep.LoopGhost
import Derived.Deep.CutBlock
import Derived.Deep.DeepCutAuto
set_option linter.unusedVariables false
set_option linter.unusedSimpArgs false
namespace Go.Proofs.Ytopcgnilajmnhaa
open Go.RowKit

/-- n numbers: those that there are, and noughts. -/
def pad (n : Nat) (of : List Int) : List Int := of.take n ++ List.replicate (n - of.length) 0
theorem pad_len (n : Nat) (of : List Int) : (pad n of).length = n := by simp [pad]; omega
theorem pad_get {n : Nat} {of : List Int} {k : Nat} (hk : k < n) : (pad n of)[k]? = some (of.getD k 0) := by
  unfold pad
  by_cases h : k < of.length
  · rw [List.getElem?_append_left (by simp; omega), List.getElem?_take, if_pos hk, List.getD_eq_getElem?_getD, List.getElem?_eq_getElem h]
    rfl
  · rw [List.getElem?_append_right (by simp; omega), List.getElem?_replicate, if_pos (by simp; omega), List.getD_eq_getElem?_getD, List.getElem?_eq_none (by omega)]
    rfl
theorem pad_full {of : List Int} : pad of.length of = of := by simp [pad]
def quorN (n : Nat) : Nat := n / 2 + 1
def nthN (P : List Int) : Int := (sortL P).getD (P.length - quorN P.length) 0
/-- How many reach t. -/
def cntN (P : List Int) (t : Int) : Nat := (P.filter fun x => decide (t ≤ x)).length
theorem cnt_perm {P Q : List Int} (h : P.Perm Q) (t : Int) : cntN P t = cntN Q t := (h.filter _).length_eq
theorem cnt_le (P : List Int) (t : Int) : cntN P t ≤ P.length := List.length_filter_le _ _
theorem cnt_append (P Q : List Int) (t : Int) : cntN (P ++ Q) t = cntN P t + cntN Q t := by simp [cntN]
theorem cnt_all {P : List Int} {t : Int} (h : ∀ x ∈ P, t ≤ x) : cntN P t = P.length := by
  unfold cntN
  rw [List.length_filter_eq_length_iff]
  exact fun x hx => decide_eq_true (h x hx)
theorem cnt_none {P : List Int} {t : Int} (h : ∀ x ∈ P, x < t) : cntN P t = 0 := by
  unfold cntN
  rw [List.length_eq_zero_iff, List.filter_eq_nil_iff]
  intro x hx
  have := h x hx
  simp
  omega
/-- What stands at place k of a list in order is reached by all behind it. -/
theorem sorted_cnt {s : List Int} (hs : s.Pairwise (· ≤ ·)) {k : Nat} (hk : k < s.length) (t : Int) : t ≤ s[k] ↔ s.length - k ≤ cntN s t := by
  have hsplit : s = s.take k ++ s.drop k := (List.take_append_drop k s).symm
  have hc : cntN s t = cntN (s.take k) t + cntN (s.drop k) t := by rw [← cnt_append, ← hsplit]
  have hp := List.pairwise_iff_getElem.1 hs
  constructor
  · intro h
    rw [hc, cnt_all (P := s.drop k), List.length_drop]
    · omega
    · intro x hx
      obtain ⟨i, hi, rfl⟩ := List.getElem_of_mem hx
      rw [List.getElem_drop]
      rcases Nat.eq_zero_or_pos i with h0 | h0
      · subst h0; exact h
      · have := hp k (k + i) hk (by simp at hi; omega) (by omega)
        omega
  · intro h
    refine Classical.byContradiction fun hn => ?_
    have h1 : cntN (s.take (k + 1)) t = 0 := cnt_none fun x hx => by
      obtain ⟨i, hi, rfl⟩ := List.getElem_of_mem hx
      rw [List.getElem_take]
      simp at hi
      rcases Nat.lt_or_ge i k with h2 | h2
      · have := hp i k (by omega) hk h2
        omega
      · obtain rfl : i = k := by omega
        omega
    have h2 : cntN s t = cntN (s.take (k + 1)) t + cntN (s.drop (k + 1)) t := by rw [← cnt_append, List.take_append_drop]
    have h3 := cnt_le (s.drop (k + 1)) t
    rw [List.length_drop] at h3
    omega
theorem quor_le {n : Nat} (h : 0 < n) : quorN n ≤ n ∧ 0 < quorN n := by unfold quorN; omega
theorem nth_iff {P : List Int} (h : 0 < P.length) (t : Int) : t ≤ nthN P ↔ quorN P.length ≤ cntN P t := by
  have hq := quor_le h
  have hk : P.length - quorN P.length < (sortL P).length := by rw [sortL_length]; omega
  unfold nthN
  have hpm : cntN (sortL P) t = cntN P t := cnt_perm (List.mergeSort_perm P _) t
  rw [getD_at hk, sorted_cnt (sortL_le P) hk t, sortL_length, hpm]
  omega
theorem nth_unique {P : List Int} (h : 0 < P.length) {b : Int} (hb : quorN P.length ≤ cntN P b) (hm : ∀ t, quorN P.length ≤ cntN P t → t ≤ b) : nthN P = b := by
  have h1 := (nth_iff h b).2 hb
  have h2 := hm _ ((nth_iff h (nthN P)).1 (Int.le_refl _))
  omega
theorem nth_mem {P : List Int} (h : 0 < P.length) : nthN P ∈ P := by
  have hq := quor_le h
  have hk : P.length - quorN P.length < (sortL P).length := by rw [sortL_length]; omega
  unfold nthN
  rw [getD_at hk]
  exact mem_sortL.1 (List.getElem_mem hk)
theorem cnt_mono {P : List Int} {t u : Int} (h : t ≤ u) : cntN P u ≤ cntN P t := by
  unfold cntN
  rw [← List.countP_eq_length_filter, ← List.countP_eq_length_filter]
  exact List.countP_mono_left fun x _ hx => by simp at *; omega
/-! ### the reference's way -/
/-- One number more has been looked at. -/
def refStep (q : Nat) (P : List Int) (s : Int × Bool) (v : Int) : Int × Bool := if q ≤ cntN P v ∧ (s.2 = false ∨ s.1 < v) then (v, true) else s
def refFold (P : List Int) (k : Nat) : Int × Bool := (P.take k).foldl (refStep (quorN P.length) P) (0, false)
theorem refFold_succ (P : List Int) {k : Nat} (hk : k < P.length) : refFold P (k + 1) = refStep (quorN P.length) P (refFold P k) P[k] := by
  unfold refFold
  rw [List.take_succ_eq_append_getElem hk, List.foldl_append]
  rfl
theorem refFold_inv (P : List Int) : ∀ k, k ≤ P.length → ((refFold P k).2 = true → quorN P.length ≤ cntN P (refFold P k).1) ∧ (∀ v ∈ P.take k, quorN P.length ≤ cntN P v → (refFold P k).2 = true ∧ v ≤ (refFold P k).1) := by
  intro k
  induction k with
  | zero =>
    intro _
    exact ⟨fun h => (by cases h), fun v hv => by simp at hv⟩
  | succ k ih =>
    intro hk
    have hk' : k < P.length := by omega
    obtain ⟨i1, i2⟩ := ih (by omega)
    rw [refFold_succ P hk']
    unfold refStep
    split
    · rename_i hc
      refine ⟨fun _ => hc.1, fun v hv hq => ⟨rfl, ?_⟩⟩
      rw [List.take_succ_eq_append_getElem hk', List.mem_append] at hv
      rcases hv with hv | hv
      · have := i2 v hv hq
        rcases hc.2 with h | h
        · rw [this.1] at h; cases h
        · exact Int.le_of_lt (Int.lt_of_le_of_lt this.2 h)
      · simp at hv
        exact Int.le_of_eq hv
    · rename_i hc
      refine ⟨i1, fun v hv hq => ?_⟩
      rw [List.take_succ_eq_append_getElem hk', List.mem_append] at hv
      rcases hv with hv | hv
      · exact i2 v hv hq
      · simp at hv
        subst hv
        have h1 : ¬ ((refFold P k).2 = false ∨ (refFold P k).1 < P[k]) := fun h => hc ⟨hq, h⟩
        rw [not_or] at h1
        exact ⟨by simpa using h1.1, Int.not_lt.1 h1.2⟩
theorem refFold_all (P : List Int) (h : 0 < P.length) : (refFold P P.length).1 = nthN P := by
  obtain ⟨i1, i2⟩ := refFold_inv P P.length (Nat.le_refl _)
  rw [List.take_length] at i2
  have h1 := i2 (nthN P) (nth_mem h) ((nth_iff h _).1 (Int.le_refl _))
  exact (nth_unique h (i1 h1.1) fun t ht => Int.le_trans ((nth_iff h t).2 ht) h1.2).symm
/-- What both answer. -/
def nthV (n : Nat) (of : List Int) : Int := if n = 0 then 0 else nthN (pad n of)
end Go.Proofs.Ytopcgnilajmnhaa
