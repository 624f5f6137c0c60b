/-
  What the two logs of ProgressMeets begin with.
-/
import Derived.Test.YtlcnpfiiijehmaaMeetP
import Derived.Test.YtlcnpfiiijehmaaRowsN
set_option linter.unusedVariables false
set_option linter.unusedSimpArgs false
namespace Go.Proofs.Ytlcnpfiiijehmaa
open Go.RowKit

theorem stepN_even (s : Int) : stepN s % 2 = 0 := by unfold stepN; omega
theorem termN_parity (t : Nat) (ss : List Int) : ∀ k, termN t ss k % 2 = t % 2
  | 0 => by simp [termN]
  | k + 1 => by
    rcases Nat.lt_or_ge k ss.length with h | h
    · rw [termN_in h]
      have := termN_parity t ss k
      have := stepN_even ss[k]
      omega
    · rw [termN_out h]
      exact termN_parity t ss k
theorem termN_mono (t : Nat) (ss : List Int) (k : Nat) : termN t ss k ≤ termN t ss (k + 1) := by
  rcases Nat.lt_or_ge k ss.length with h | h
  · rw [termN_in h]
    omega
  · rw [termN_out h]
    exact Nat.le_refl _
theorem termN_ge (t : Nat) (ss : List Int) (k : Nat) : t ≤ termN t ss k := by unfold termN; omega
theorem rowsN_get {i t : Nat} {ss : List Int} {n k : Nat} (h : k < n) : (rowsN i t ss n).getD k e0 = entC (termN t ss (k + 1)) (i + 1 + k) := by
  rw [List.getD_eq_getElem?_getD]
  unfold rowsN
  rw [List.getElem?_map, List.getElem?_range h]
  rfl
theorem lastT_rows (t i t0 : Nat) (ss : List Int) (k : Nat) : lastT (t : Int) (rowsN i t0 ss k) k = if k = 0 then (t : Int) else ((termN t0 ss k : Nat) : Int) := by
  unfold lastT
  by_cases hk : k = 0
  · rw [if_pos hk, if_pos hk]
  · rw [if_neg hk, if_neg hk, rowsN_get (by omega)]
    show ((termN t0 ss (k - 1 + 1) : Nat) : Int) = _
    rw [show k - 1 + 1 = k by omega]
theorem rowsN_row {i t t0 : Nat} {ss : List Int} (ht : t ≤ t0) (h1 : 1 ≤ t0) (hb : t0 ≤ 1000) (hi : i ≤ 100) : ∀ {n : Nat}, n ≤ 100 → rowB (i : Int) (t : Int) (rowsN i t0 ss n) = true
  | 0, _ => by simp [rowsN, rowB]
  | n + 1, hn => by
    have ih := rowsN_row (n := n) (ss := ss) ht h1 hb hi (by omega)
    rw [rowsN_succ]
    refine rowB_app ih ?_
    rw [rowsN_length, lastT_rows]
    have g1 := termN_le (ss := ss) (t := t0) (k := n + 1) hb (by omega)
    have g2 := termN_ge t0 ss (n + 1)
    have g3 := termN_mono t0 ss n
    have hr : rightE (entC (termN t0 ss (n + 1)) (i + 1 + n)) = true := right_entC (by omega) (by omega) (by omega) (by omega)
    rw [rowB_good hr (by show ((i + 1 + n : Nat) : Int) = _; omega) (by
      show _ ≤ ((termN t0 ss (n + 1) : Nat) : Int)
      split <;> omega)]
    rfl
theorem rowsN_mem {i t : Nat} {ss : List Int} {n : Nat} {x : Ent} (h : x ∈ rowsN i t ss n) : ∃ k, k < n ∧ x = entC (termN t ss (k + 1)) (i + 1 + k) := by
  unfold rowsN at h
  obtain ⟨k, hk, rfl⟩ := List.mem_map.1 h
  exact ⟨k, List.mem_range.1 hk, rfl⟩
theorem rowsN_small {i t : Nat} {ss : List Int} {n : Nat} : SmallE (rowsN i t ss n) := by
  intro x hx
  obtain ⟨k, _, rfl⟩ := rowsN_mem hx
  unfold entC
  simp
theorem rowsN_take {i t : Nat} {ss : List Int} {n k : Nat} (h : k ≤ n) : (rowsN i t ss n).take k = rowsN i t ss k := by
  unfold rowsN
  rw [← List.map_take, List.take_range, Nat.min_eq_left h]
theorem leader_ok {ss : List Int} {n : Nat} (hn : n ≤ 99) : LdOK (rowsN 0 2 ss n) n where
  len := rowsN_length _ _ _ _
  small := hn
  right := rightV_iff.2 ⟨by show (0 : Int) ≤ 0; omega, by show (0 : Int) ≤ _; omega, by show (0 : Int) ≤ 0; omega, by show (0 : Int) < _; omega, by show (rowsN 0 2 ss n).length ≤ _; rw [rowsN_length]; omega, rowsN_row (i := 0) (t := 0) (by omega) (by omega) (by omega) (by omega) (by omega)⟩
  even := fun x hx => by
    obtain ⟨k, _, rfl⟩ := rowsN_mem hx
    have := termN_parity 2 ss (k + 1)
    show ((termN 2 ss (k + 1) : Nat) : Int) % 2 = 0
    omega
  data := rowsN_small
theorem follow_ok {ss ts : List Int} {n same other : Nat} (hs : same ≤ n) (hn : n ≤ 39) (ho : other ≤ 19) : MeetI (rowsN 0 2 ss n) n (rowsN 0 2 ss same ++ rowsN same (termN 2 ss same + 1) ts other) ((n : Int) + 1) 0 0 := by
  have hl : termN 2 ss same ≤ 999 := by
    unfold termN
    have h := sum_steps_le (ss.take same)
    have h2 : (ss.take same).length ≤ same := List.length_take_le _ _
    omega
  have h1 : rowB 0 0 (rowsN 0 2 ss same) = true := rowsN_row (i := 0) (t := 0) (by omega) (by omega) (by omega) (by omega) (by omega)
  have h2 : rowB 0 0 (rowsN 0 2 ss same ++ rowsN same (termN 2 ss same + 1) ts other) = true := by
    refine rowB_app h1 ?_
    rw [rowsN_length]
    have h3 := lastT_rows 0 0 2 ss same
    rw [Int.natCast_zero] at h3
    rw [h3, Int.zero_add]
    by_cases h0 : same = 0
    · rw [if_pos h0]
      exact rowsN_row (t := 0) (by omega) (by omega) (by omega) (by omega) (by omega)
    · rw [if_neg h0]
      exact rowsN_row (by omega) (by omega) (by omega) (by omega) (by omega)
  refine ⟨same, hs, ⟨rowsN same (termN 2 ss same + 1) ts other, by rw [rowsN_take hs], fun x hx => ?_⟩, ?_, ?_, ?_, by omega, by omega, by omega, by omega, by omega⟩
  · obtain ⟨k, _, rfl⟩ := rowsN_mem hx
    have h4 := termN_parity (termN 2 ss same + 1) ts (k + 1)
    have h5 := termN_parity 2 ss same
    show ((termN (termN 2 ss same + 1) ts (k + 1) : Nat) : Int) % 2 = 1
    omega
  · rw [List.length_append, rowsN_length, rowsN_length]
    omega
  · exact rightV_iff.2 ⟨by show (0 : Int) ≤ 0; omega, by show (0 : Int) ≤ _; omega, by show (0 : Int) ≤ 0; omega, by show (0 : Int) < _; omega, by show (_ ++ _ : List Ent).length ≤ _; rw [List.length_append, rowsN_length, rowsN_length]; omega, h2⟩
  · intro x hx
    rcases List.mem_append.1 hx with h | h
    · exact rowsN_small x h
    · exact rowsN_small x h
end Go.Proofs.Ytlcnpfiiijehmaa
