/-
  Calls that may be by themselves.
-/
import Derived.Test.YtbnbeailbhnbdaaCall3
set_option linter.unusedVariables false
set_option linter.unusedSimpArgs false
namespace Go.Proofs.Ytbnbeailbhnbdaa
open Go.RowKit

def aloneP (c : CV) : Prop := 0 ≤ c.client ∧ 1 ≤ c.kind ∧ c.kind ≤ 3 ∧ 0 ≤ c.beg ∧ c.beg < 1099511627776 ∧ 0 ≤ c.place ∧ c.place ≤ 1099511627776
def endsB (c : CV) : Bool := !c.ans || (decide (c.beg < c.fin) && decide (c.fin < 1099511627776))
instance (c : CV) : Decidable (aloneP c) := by unfold aloneP; infer_instance
def aloneB (c : CV) : Bool := endsB c && decide (aloneP c)
def RetBo (b : Bool) (w : World) (e : Ending) (w' : World) : Prop := e = .returned (.bool b) ∧ Below w.heap.size w w'
set_option maxHeartbeats 2000000 in
theorem alone_any (c : CV) (w : World) : Calls Try.prog 46 #[c.val] w (RetBo (aloneB c) w) := by
  obtain ⟨c1, c2, c3, c4, c5, c6, c7, c8, c9, c10, c11, c12⟩ := c
  have hb : Below w.heap.size w (w.alloc (.cells #[.int .i64 c1, .int .i64 c2, .int .i64 c3, .int .i64 c4, .int .i64 c5, .bool c6, .int .i64 c7, .int .i64 c8, .int .i64 c9, .int .i64 c10, c11, c12] 62)) := (Below.refl w.heap.size w).alloc (Nat.le_refl _) _
  obtain ⟨W, hW⟩ : ∃ W, (w.alloc (.cells #[.int .i64 c1, .int .i64 c2, .int .i64 c3, .int .i64 c4, .int .i64 c5, .bool c6, .int .i64 c7, .int .i64 c8, .int .i64 c9, .int .i64 c10, c11, c12] 62)) = W := ⟨_, rfl⟩
  rw [hW] at hb
  unfold CV.val CV.cells
  have hv : aloneB ⟨c1, c2, c3, c4, c5, c6, c7, c8, c9, c10, c11, c12⟩ = ((!c6 || (decide (c2 < c3) && decide (c3 < 1099511627776))) && decide (0 ≤ c1 ∧ 1 ≤ c4 ∧ c4 ≤ 3 ∧ 0 ≤ c2 ∧ c2 < 1099511627776 ∧ 0 ≤ c5 ∧ c5 ≤ 1099511627776)) := rfl
  rw [hv]
  have HW := Lib.hid hW
  have k0 : W.cell? ⟨w.heap.size, 0, none⟩ = some (.int .i64 c1) := by rw [← hW]; simp
  have k1 : W.cell? ⟨w.heap.size, 1, none⟩ = some (.int .i64 c2) := by rw [← hW]; simp
  have k2 : W.cell? ⟨w.heap.size, 2, none⟩ = some (.int .i64 c3) := by rw [← hW]; simp
  have k3 : W.cell? ⟨w.heap.size, 3, none⟩ = some (.int .i64 c4) := by rw [← hW]; simp
  have k4 : W.cell? ⟨w.heap.size, 4, none⟩ = some (.int .i64 c5) := by rw [← hW]; simp
  have k5 : W.cell? ⟨w.heap.size, 5, none⟩ = some (.bool c6) := by rw [← hW]; simp
  have HB := Lib.hid hb
  clear hW hv hb
  have hend : c6 = false ∨ (c6 = true ∧ c2 < c3 ∧ c3 < 1099511627776) ∨ (c6 = true ∧ c2 < c3 ∧ ¬ c3 < 1099511627776) ∨ (c6 = true ∧ ¬ c2 < c3) := by
    rcases Bool.eq_false_or_eq_true c6 with h | h
    · by_cases h1 : c2 < c3
      · by_cases h2 : c3 < 1099511627776
        · exact .inr (.inl ⟨h, h1, h2⟩)
        · exact .inr (.inr (.inl ⟨h, h1, h2⟩))
      · exact .inr (.inr (.inr ⟨h, h1⟩))
    · exact .inl h
  rcases hend with rfl | ⟨rfl, h1, h2⟩ | ⟨rfl, h1, h2⟩ | ⟨rfl, h1⟩
  all_goals
    go_enter Try.func46, Try.ntmps46
    go_upto_region 1 with fail
    rw [HW.out]
    go_wp2_with fail
  all_goals go_ret
  all_goals (refine ⟨?_, HB.out⟩)
  all_goals clear HB HW k0 k1 k2 k3 k4 k5
  all_goals first
    | (simp [*]; done)
    | (simp [*]; omega)
end Go.Proofs.Ytbnbeailbhnbdaa
