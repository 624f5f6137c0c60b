/-
  The reference: calls that may be by themselves.
-/
import Derived.Test.YtbnbeailbhnbdaaLegP
set_option linter.unusedVariables false
set_option linter.unusedSimpArgs false
namespace Go.Proofs.Ytbnbeailbhnbdaa
open Go.RowKit

set_option maxHeartbeats 2000000 in
theorem refalone_any (c : CV) (w : World) : Calls Try.prog 34 #[c.val] w (RetBo (aloneB c) w) := by
  obtain ⟨c1, c2, c3, c4, c5, c6, c7, c8, c9, c10, c11, c12⟩ := c
  have hb : Below w.heap.size w (w.alloc (.cells #[.int .i64 c1, .int .i64 c2, .int .i64 c3, .int .i64 c4, .int .i64 c5, .bool c6, .int .i64 c7, .int .i64 c8, .int .i64 c9, .int .i64 c10, c11, c12] 50)) := (Below.refl w.heap.size w).alloc (Nat.le_refl _) _
  obtain ⟨W, hW⟩ : ∃ W, (w.alloc (.cells #[.int .i64 c1, .int .i64 c2, .int .i64 c3, .int .i64 c4, .int .i64 c5, .bool c6, .int .i64 c7, .int .i64 c8, .int .i64 c9, .int .i64 c10, c11, c12] 50)) = W := ⟨_, rfl⟩
  rw [hW] at hb
  unfold CV.val CV.cells
  have hv : aloneB ⟨c1, c2, c3, c4, c5, c6, c7, c8, c9, c10, c11, c12⟩ = ((!c6 || (decide (c2 < c3) && decide (c3 < 1099511627776))) && decide (0 ≤ c1 ∧ 1 ≤ c4 ∧ c4 ≤ 3 ∧ 0 ≤ c2 ∧ c2 < 1099511627776 ∧ 0 ≤ c5 ∧ c5 ≤ 1099511627776)) := rfl
  rw [hv]
  have HW := Lib.hid hW
  have k0 : W.cell? ⟨w.heap.size, 0, none⟩ = some (.int .i64 c1) := by rw [← hW]; simp
  have k1 : W.cell? ⟨w.heap.size, 1, none⟩ = some (.int .i64 c2) := by rw [← hW]; simp
  have k2 : W.cell? ⟨w.heap.size, 2, none⟩ = some (.int .i64 c3) := by rw [← hW]; simp
  have k3 : W.cell? ⟨w.heap.size, 3, none⟩ = some (.int .i64 c4) := by rw [← hW]; simp
  have k4 : W.cell? ⟨w.heap.size, 4, none⟩ = some (.int .i64 c5) := by rw [← hW]; simp
  have k5 : W.cell? ⟨w.heap.size, 5, none⟩ = some (.bool c6) := by rw [← hW]; simp
  have HB := Lib.hid hb
  clear hW hv hb
  have hend : c6 = false ∨ (c6 = true ∧ c2 < c3 ∧ c3 < 1099511627776) ∨ (c6 = true ∧ c2 < c3 ∧ ¬ c3 < 1099511627776) ∨ (c6 = true ∧ ¬ c2 < c3) := by
    rcases Bool.eq_false_or_eq_true c6 with h | h
    · by_cases h1 : c2 < c3
      · by_cases h2 : c3 < 1099511627776
        · exact .inr (.inl ⟨h, h1, h2⟩)
        · exact .inr (.inr (.inl ⟨h, h1, h2⟩))
      · exact .inr (.inr (.inr ⟨h, h1⟩))
    · exact .inl h
  rcases hend with rfl | ⟨rfl, h1, h2⟩ | ⟨rfl, h1, h2⟩ | ⟨rfl, h1⟩
  all_goals
    go_enter Try.func34, Try.ntmps34
    go_upto_region 1 with fail
    rw [HW.out]
    go_wp2_with fail
  all_goals go_ret
  all_goals (refine ⟨?_, HB.out⟩)
  all_goals clear HB HW k0 k1 k2 k3 k4 k5
  all_goals first
    | (simp [*]; done)
    | (simp [*]; omega)
/-- The reference's test of two calls. -/
def pairQ (cs : List CV) (i k : Nat) : Bool := k == i || ((atC cs k).client != (atC cs i).client || !((atC cs k).beg == (atC cs i).beg || (decide ((atC cs i).beg < (atC cs k).beg) && (!(atC cs i).ans || decide ((atC cs k).beg < (atC cs i).fin)))))
def oneQ (cs : List CV) (i : Nat) : Bool := aloneB (atC cs i) && (List.range cs.length).all (pairQ cs i)
def rightQ (cs : List CV) : Bool := decide (cs.length ≤ 2000) && (List.range cs.length).all (oneQ cs)
theorem pairQ_iff (cs : List CV) (i k : Nat) : pairQ cs i k = true ↔ (i ≠ k → (atC cs i).client = (atC cs k).client → (atC cs k).beg ≠ (atC cs i).beg ∧ ((atC cs i).beg < (atC cs k).beg → (atC cs i).ans = true ∧ (atC cs i).fin ≤ (atC cs k).beg)) := by
  unfold pairQ
  by_cases h1 : k = i
  · simp [h1]
  · by_cases h2 : (atC cs (k : Int)).client = (atC cs (i : Int)).client
    · have h3 : i ≠ k := fun e => h1 e.symm
      simp only [h1, h2, h3, beq_iff_eq, bne_self_eq_false, Bool.false_or, beq_eq_false_iff_ne.2 h1, ne_eq, not_false_eq_true, true_implies]
      cases ha : (atC cs (i : Int)).ans
      · simp
      · simp
        intro h4
        constructor
        · intro h5 h6
          rcases h5 with h5 | h5
          · omega
          · exact h5
        · intro h5
          rcases Int.lt_or_le (atC cs (i : Int)).beg (atC cs (k : Int)).beg with h6 | h6
          · exact .inr (h5 h6)
          · exact .inl h6
    · have h3 : ((atC cs (k : Int)).client != (atC cs (i : Int)).client) = true := by simpa using h2
      rw [h3]
      simp only [Bool.true_or, Bool.or_true, true_iff]
      exact fun _ h => absurd h.symm h2
theorem right_eq (cs : List CV) : rightC cs = rightQ cs := by
  unfold rightC rightQ
  congr 1
  cases hal : cs.all aloneB with
  | false =>
    obtain ⟨c, hc, hcf⟩ := List.all_eq_false.1 hal
    obtain ⟨i, hi, hic⟩ := List.getElem_of_mem hc
    have : (List.range cs.length).all (oneQ cs) = false := by
      rw [List.all_eq_false]
      refine ⟨i, List.mem_range.2 hi, ?_⟩
      have h1 : atC cs (i : Int) = c := by
        unfold atC
        rw [Int.toNat_natCast, List.getD_eq_getElem?_getD, List.getElem?_eq_getElem hi]
        exact hic
      unfold oneQ
      rw [h1]
      simpa using fun h => absurd h hcf
    rw [this]
    rfl
  | true =>
    rw [Bool.true_and]
    refine Bool.eq_iff_iff.2 ((row_iff hal).trans ?_)
    rw [List.all_eq_true]
    unfold pairP
    constructor
    · intro h i hi
      unfold oneQ
      rw [alone_at hal (List.mem_range.1 hi), Bool.true_and, List.all_eq_true]
      exact fun k hk => (pairQ_iff cs i k).2 (fun hne hc => h i k (List.mem_range.1 hi) (List.mem_range.1 hk) hne hc)
    · intro h i k hi hk hne hc
      have h1 := h i (List.mem_range.2 hi)
      unfold oneQ at h1
      rw [Bool.and_eq_true, List.all_eq_true] at h1
      exact (pairQ_iff cs i k).1 (h1.2 k (List.mem_range.2 hk)) hne hc
end Go.Proofs.Ytbnbeailbhnbdaa
