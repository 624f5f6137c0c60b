/-
  Package net: servers, letters, a net without its methods that change it.
-/
import Derived.Test.YtfhmdphcgcmaeaaClone
import Derived.Test.YtfhmdphcgcmaeaaStep
set_option linter.unusedVariables false
set_option linter.unusedSimpArgs false
namespace Go.Proofs.Ytfhmdphcgcmaeaa
open Go.RowKit

/-- A letter: from, to, bytes. -/
abbrev Lt := Int × Int × List UInt8
def serverB (i : Int) : Bool := decide (0 ≤ i) && decide (i < 16)
def rightB (l : Lt) : Bool := serverB l.1 && (serverB l.2.1 && ((l.1 != l.2.1) && decide (l.2.2.length ≤ 1048576)))
theorem server_any (i : Int) (w : World) : Calls Try.prog 30 #[.int .i64 i] w fun e w' => e = .returned (.bool (serverB i)) ∧ w = w' := by
  by_cases h0 : 0 ≤ i
  · by_cases h1 : i < 16
    · have h : serverB i = true := by simp [serverB, h0, h1]
      rw [h]
      go_enter Try.func30, Try.ntmps30
      go_wp2
      go_ret
      exact ⟨rfl, rfl⟩
    · have h : serverB i = false := by simp [serverB, h1]
      rw [h]
      go_enter Try.func30, Try.ntmps30
      go_wp2
      go_ret
      exact ⟨rfl, rfl⟩
  · have h : serverB i = false := by simp [serverB, h0]
    rw [h]
    go_enter Try.func30, Try.ntmps30
    go_wp2
    go_ret
    exact ⟨rfl, rfl⟩
/-- The world has grown by blocks alone; a value is told. -/
def RetVal (w : World) (v : Value) (e : Ending) (w' : World) : Prop := e = .returned v ∧ Below w.heap.size w w'
theorem right_any (f t : Int) (A : Option Addr) (n c : Nat) (w : World) (hn : n ≤ 140737488355328) : Calls Try.prog 26 #[.agg #[.int .i64 f, .int .i64 t, .slice A n c]] w (RetVal w (.bool (serverB f && (serverB t && ((f != t) && decide (n ≤ 1048576)))))) := by
  have hal := (Below.refl w.heap.size w).alloc (Nat.le_refl _) (.cells #[.int .i64 f, .int .i64 t, .slice A n c] 33)
  cases hf : serverB f with
  | false =>
    go_enter Try.func26, Try.ntmps26
    go_wp2_with (first
      | (go_at_call 30; refine (server_any f _).mono ?_; rintro e w' ⟨rfl, rfl⟩)
      | fail)
    go_ret
    exact ⟨rfl, hal⟩
  | true =>
    cases ht : serverB t with
    | false =>
      go_enter Try.func26, Try.ntmps26
      go_wp2_with (first
        | (go_at_call 30; refine (server_any _ _).mono ?_; rintro e w' ⟨rfl, rfl⟩)
        | fail)
      go_ret
      exact ⟨rfl, hal⟩
    | true =>
      by_cases hft : f = t
      · subst hft
        go_enter Try.func26, Try.ntmps26
        go_wp2_with (first
          | (go_at_call 30; refine (server_any _ _).mono ?_; rintro e w' ⟨rfl, rfl⟩)
          | fail)
        go_ret
        exact ⟨by simp, hal⟩
      · have b1 : (f != t) = true := by simp [hft]
        by_cases hn2 : n ≤ 1048576
        · have hn3 : (n : Int) ≤ 1048576 := by omega
          go_enter Try.func26, Try.ntmps26
          go_wp2_with (first
            | (go_at_call 30; refine (server_any _ _).mono ?_; rintro e w' ⟨rfl, rfl⟩)
            | fail)
          go_ret
          exact ⟨by simp [hft, hn2], hal⟩
        · have hn3 : ¬ (n : Int) ≤ 1048576 := by omega
          go_enter Try.func26, Try.ntmps26
          go_wp2_with (first
            | (go_at_call 30; refine (server_any _ _).mono ?_; rintro e w' ⟨rfl, rfl⟩)
            | fail)
          go_ret
          exact ⟨by simp [hft, hn2]; omega, hal⟩
/-- The cell of a net that says how many letters it bears. -/
theorem none_nil (w : World) : Calls Try.prog 25 #[.pointer none] w fun e w' => e = .returned (.bool true) ∧ w = w' := by
  go_enter Try.func25, Try.ntmps25
  go_wp2
  go_ret
  exact ⟨rfl, rfl⟩
theorem none_any (g : Nat) (m : Int) (w : World) (h : w.cell? ⟨g, 0, none⟩ = some (.int .i64 m)) : Calls Try.prog 25 #[.pointer (some ⟨g, 0, none⟩)] w fun e w' => e = .returned (.bool (m == 0)) ∧ w = w' := by
  go_enter Try.func25, Try.ntmps25
  go_wp2
  go_ret
  exact ⟨by simp, rfl⟩
theorem num_any (v : Value) (w : World) : Calls Try.prog 9 #[v] w fun e w' => e = .returned v ∧ w = w' := by
  go_enter Try.func9, Try.ntmps9
  go_wp2
  go_ret
  exact ⟨rfl, rfl⟩
/-- A copy of a letter, its bytes the call's own. -/
def RetLetter (w : World) (f t : Int) (bs : List UInt8) (e : Ending) (w' : World) : Prop :=
  ∃ A c, e = .returned (.agg #[.int .i64 f, .int .i64 t, .slice A bs.length c]) ∧ w'.ownsRow w.heap.size 5 1 (.slice A bs.length c) bs.length (u8s bs) ∧ Below w.heap.size w w'
theorem frozen_of_cells {w : World} {B : Nat} {cs : Array Value} {t : TypeId} (h : w.heap[B]? = some (.cells cs t (0, 0))) (j : Nat) : w.frozen? ⟨B, j, none⟩ = false := by
  simp [World.frozen?, h]
set_option maxHeartbeats 1000000 in
theorem own_any (f t : Int) (A : Option Addr) (bs : List UInt8) (c : Nat) (w : World) (hc : bs.length ≤ c) (hl : bs.length ≤ 140737488355328) (h : Sees w A (u8s bs)) :
    Calls Try.prog 27 #[.agg #[.int .i64 f, .int .i64 t, .slice A bs.length c]] w (RetLetter w f t bs) := by
  obtain ⟨w2, hw2⟩ : ∃ w2, (w.alloc (.cells #[.int .i64 f, .int .i64 t, .slice A bs.length c] 33)).alloc (.cells #[.int .i64 0, .int .i64 0, .slice none 0 0] 33) = w2 := ⟨_, rfl⟩
  have hb2 : Below w.heap.size w w2 := by rw [← hw2]; exact ((Below.refl _ w).alloc (Nat.le_refl _) _).alloc (by simp) _
  have hz : w2.heap.size = w.heap.size + 2 := by rw [← hw2]; simp
  have x1 : w2.heap[w.heap.size]? = some (.cells #[.int .i64 f, .int .i64 t, .slice A bs.length c] 33 (0, 0)) := by
    rw [← hw2]
    have h1 : (w.alloc (.cells #[.int .i64 f, .int .i64 t, .slice A bs.length c] 33)).heap[w.heap.size]? = some (.cells #[.int .i64 f, .int .i64 t, .slice A bs.length c] 33 (0, 0)) := heap_alloc_new w _
    exact (Below.heap_alloc _ _ _ (by simp)).trans h1
  have x2 : w2.heap[w.heap.size + 1]? = some (.cells #[.int .i64 0, .int .i64 0, .slice none 0 0] 33 (0, 0)) := by
    rw [← hw2]
    have := heap_alloc_new (w.alloc (.cells #[.int .i64 f, .int .i64 t, .slice A bs.length c] 33)) (.cells #[.int .i64 0, .int .i64 0, .slice none 0 0] 33)
    simpa using this
  have hS := h.below hb2
  have HZ := Lib.hid hz
  have HW2 := Lib.hid hw2
  clear h hw2
  go_enter Try.func27, Try.ntmps27
  go_wp2_with (first
    | (go_at_call 40; rw [HW2.out]; go_loud (refine (clone_u8 A bs c _ hc hl (by exact hS)).mono ?_); rintro e w3 ⟨A3, c3, rfl, hown3, hb3⟩; have y1 := (hb3.block w.heap.size (by omega)).trans x1; have y2 := (hb3.block (w.heap.size + 1) (by omega)).trans x2; have c10 := cell_of_row w3 _ 0 _ _ _ y1; have c11 := cell_of_row w3 _ 1 _ _ _ y1; have c12 := cell_of_row w3 _ 2 _ _ _ y1; have c20 := cell_of_row w3 _ 0 _ _ _ y2; have c21 := cell_of_row w3 _ 1 _ _ _ y2; have c22 := cell_of_row w3 _ 2 _ _ _ y2; have f10 := frozen_of_cells y1; have f20 := frozen_of_cells y2; simp at c10 c11 c12 c20 c21 c22)
    | fail)
  have hrow : ((((w3.setCell ⟨w.heap.size, 2, none⟩ (.slice A3 bs.length c3)).setCell ⟨w.heap.size + 1, 0, none⟩ (.int .i64 f)).setCell ⟨w.heap.size + 1, 1, none⟩ (.int .i64 t)).setCell ⟨w.heap.size + 1, 2, none⟩ (.slice A3 bs.length c3)).heap[w.heap.size + 1]? = some (.cells #[.int .i64 f, .int .i64 t, .slice A3 bs.length c3] 33 (0, 0)) := by
    simp [World.setCell, Array.getElem?_modify, y2]
  refine bodyPost_ret (v := .agg #[.int .i64 f, .int .i64 t, .slice A3 bs.length c3]) (results_cell_row rfl _ _ _ _ _ _ _ rfl hrow Try.underlying33 rfl (by kernel_rfl)) rfl ?_
  have hB3 := below_step hb2 hb2.size hb3
  refine ⟨A3, c3, rfl, ?_, ?_⟩
  · have hk := own_lower hown3 (show w.heap.size + 2 ≤ w2.heap.size by omega)
    refine own_lower (ownsRow_setCell_below (ownsRow_setCell_below (ownsRow_setCell_below (ownsRow_setCell_below hk (by simp) _) (by simp) _) (by simp) _) (by simp) _) (by omega)
  · exact (((hB3.setCell (by simp) _).setCell (by simp) _).setCell (by simp) _).setCell (by simp) _
theorem at_nil (k : Int) (w : World) : Calls Try.prog 28 #[.pointer none, .int .i64 k] w fun e w' => e = .returned (.int .i64 1) ∧ w = w' := by
  go_enter Try.func28, Try.ntmps28
  go_wp2_with (first
    | (go_at_call 25; (refine (none_nil _).mono ?_); rintro e w' ⟨rfl, rfl⟩)
    | fail)
  go_ret
  exact ⟨rfl, rfl⟩
theorem len_nil (w : World) : Calls Try.prog 15 #[.pointer none] w fun e w' => e = .returned (.int .i64 0) ∧ w = w' := by
  go_enter Try.func15, Try.ntmps15
  go_wp2_with (first
    | (go_at_call 25; (refine (none_nil _).mono ?_); rintro e w' ⟨rfl, rfl⟩)
    | fail)
  go_ret
  exact ⟨rfl, rfl⟩
end Go.Proofs.Ytfhmdphcgcmaeaa
