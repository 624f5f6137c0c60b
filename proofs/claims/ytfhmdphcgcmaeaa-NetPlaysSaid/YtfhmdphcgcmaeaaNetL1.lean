/-
  The law's own functions: Own, same.
-/
import Derived.Test.YtfhmdphcgcmaeaaNet10
set_option linter.unusedVariables false
set_option linter.unusedSimpArgs false
namespace Go.Proofs.Ytfhmdphcgcmaeaa
open Go.RowKit

theorem far3 {w : World} {b b' : Nat} {v0 v1 v2 x0 x1 x2 : Value} (h : b' ≠ b) (hc : w.cell? ⟨b, 0, none⟩ = some v0 ∧ w.cell? ⟨b, 1, none⟩ = some v1 ∧ w.cell? ⟨b, 2, none⟩ = some v2) :
    (((w.setCell ⟨b', 0, none⟩ x0).setCell ⟨b', 1, none⟩ x1).setCell ⟨b', 2, none⟩ x2).cell? ⟨b, 0, none⟩ = some v0 ∧ (((w.setCell ⟨b', 0, none⟩ x0).setCell ⟨b', 1, none⟩ x1).setCell ⟨b', 2, none⟩ x2).cell? ⟨b, 1, none⟩ = some v1 ∧ (((w.setCell ⟨b', 0, none⟩ x0).setCell ⟨b', 1, none⟩ x1).setCell ⟨b', 2, none⟩ x2).cell? ⟨b, 2, none⟩ = some v2 := by
  refine ⟨?_, ?_, ?_⟩ <;> (rw [cell_far _ _ _ _ h, cell_far _ _ _ _ h, cell_far _ _ _ _ h]; simp [hc])
set_option maxHeartbeats 1000000 in
theorem lawOwn_any (f t : Int) (A : Option Addr) (bs : List UInt8) (c : Nat) (w : World) (hc : bs.length ≤ c) (hl : bs.length ≤ 140737488351232) (h : Sees w A (u8s bs)) :
    Calls Try.prog 12 #[.agg #[.int .i64 f, .int .i64 t, .slice A bs.length c]] w (RetLetter w f t bs) := by
  obtain ⟨W, hW⟩ : ∃ W, (w.alloc (.cells #[.int .i64 f, .int .i64 t, .slice A bs.length c] 35)).alloc (.cells #[.int .i64 0, .int .i64 0, .slice none 0 0] 33) = W := ⟨_, rfl⟩
  have hb2 : Below w.heap.size w W := by rw [← hW]; exact ((Below.refl _ w).alloc (Nat.le_refl _) _).alloc (by simp) _
  have hz : W.heap.size = w.heap.size + 2 := by rw [← hW]; simp
  have x1 : W.heap[w.heap.size]? = some (.cells #[.int .i64 f, .int .i64 t, .slice A bs.length c] 35 (0, 0)) := by
    rw [← hW]
    exact (Below.heap_alloc _ _ _ (by simp)).trans (heap_alloc_new w _)
  have x2 : W.heap[w.heap.size + 1]? = some (.cells #[.int .i64 0, .int .i64 0, .slice none 0 0] 33 (0, 0)) := by
    rw [← hW]
    exact heap_alloc2_new w _ _
  have hS := h.below hb2
  have HW := Lib.hid hW
  have U := Lib.hid (u8s_length bs)
  have hcell : ∀ W', Below W.heap.size W W' → W'.cell? ⟨w.heap.size, 0, none⟩ = some (.int .i64 f) ∧ W'.cell? ⟨w.heap.size, 1, none⟩ = some (.int .i64 t) ∧ W'.cell? ⟨w.heap.size, 2, none⟩ = some (.slice A bs.length c) := by
    intro W' hb
    have y := (hb.block w.heap.size (by omega)).trans x1
    exact ⟨by rw [cell_of_row W' _ 0 _ _ _ y]; rfl, by rw [cell_of_row W' _ 1 _ _ _ y]; rfl, by rw [cell_of_row W' _ 2 _ _ _ y]; rfl⟩
  have HZ := Lib.hid hz
  clear h hW x1 hz
  go_enter Try.func12, Try.ntmps12
  go_wp2
  rw [HW.out]

  have k0 := hcell _ (Below.refl W.heap.size W).drew
  have hba := ((Below.refl W.heap.size W).alloc (Nat.le_refl _) (.cells #[] 5)).drew
  have k1 := hcell _ hba
  go_region_held3 (fun W' => W'.cell? ⟨w.heap.size, 0, none⟩ = some (.int .i64 f) ∧ W'.cell? ⟨w.heap.size, 1, none⟩ = some (.int .i64 t) ∧ W'.cell? ⟨w.heap.size, 2, none⟩ = some (.slice A bs.length c)) (first
      | exact k0
      | exact k1
      | exact hcell _ hb3
      | exact far3 (by simp) (hcell _ hb3)
      | fail)
    (first
      | (refine step_append_sees rfl (.tmp 7) (.tmp 9) 31 (by rfl) W.heap.size 5 (.int .u8 0) 1 1 Try.underlying31 infoU8 rfl (by decide) (.slice (some ⟨W.heap.size, 0, none⟩) 0 0) 0 [] (by rfl) (by exact own_made0 W 5 1) A bs.length c (u8s bs) (by rfl) (by rw [U.out, Nat.mul_one]) (by exact hS.below hba) (u8s_one _) (by simp only [maxLen]; omega) (by omega) (by simp) ?_; intro A3 c3 w3 hown3 hg3 hat3; have hb3 : Below W.heap.size W w3 := below_grown_own hba (by simp) (own_made0 W 5 1) (Nat.le_refl _) hg3; have y2 := (hb3.block (w.heap.size + 1) (by have := HZ.out; omega)).trans x2; have c20 := cell_of_row w3 _ 0 _ _ _ y2; have c21 := cell_of_row w3 _ 1 _ _ _ y2; have c22 := cell_of_row w3 _ 2 _ _ _ y2; have f20 := frozen_of_cells y2; simp at c20 c21 c22)
      | fail)
  go_wp2
  refine bodyPost_ret (v := .agg #[.int .i64 f, .int .i64 t, .slice A3 bs.length c3]) (results_cell_row rfl _ _ _ _ _ _ _ rfl (set3 y2 _ _ _) Try.underlying33 rfl (by kernel_rfl)) rfl ?_
  have hz := HZ.out
  refine ⟨A3, c3, rfl, ?_, below_set3 (below_step hb2 hb2.size hb3) (by omega) _ _ _⟩
  have ho : w3.ownsRow W.heap.size 5 1 (.slice A3 bs.length c3) bs.length (u8s bs) := by simpa using hown3
  exact own_lower (ownsRow_setCell_below (ownsRow_setCell_below (ownsRow_setCell_below ho (by simp; omega) _) (by simp; omega) _) (by simp; omega) _) (by omega)
theorem strB_beq (bs : List UInt8) : ((strB bs).toList == (strB bs).toList) = true := by simp
/-- Two letters that are the same. -/
theorem same_any (f t : Int) (A B : Option Addr) (bs : List UInt8) (c d : Nat) (w : World) (hA : Sees w A (u8s bs)) (hB : Sees w B (u8s bs)) :
    Calls Try.prog 14 #[.agg #[.int .i64 f, .int .i64 t, .slice A bs.length c], .agg #[.int .i64 f, .int .i64 t, .slice B bs.length d]] w (RetBool w true) := by
  have hb2 : Below w.heap.size w ((w.alloc (.cells #[.int .i64 f, .int .i64 t, .slice A bs.length c] 33)).alloc (.cells #[.int .i64 f, .int .i64 t, .slice B bs.length d] 35)) := ((Below.refl _ w).alloc (Nat.le_refl _) _).alloc (by simp) _
  have q1 := run_string_sees (P := Try.prog) _ _ _ _ Try.underlying31 Try.underlying5 Try.underlying9 A bs.length c bs rfl (hA.below hb2)
  have q2 := run_string_sees (P := Try.prog) _ _ _ _ Try.underlying31 Try.underlying5 Try.underlying9 B bs.length d bs rfl (hB.below hb2)
  have HB := Lib.hid hb2
  clear hA hB hb2
  go_enter Try.func14, Try.ntmps14
  go_wp2
  go_ret
  exact ⟨by simp, HB.out⟩
end Go.Proofs.Ytfhmdphcgcmaeaa
