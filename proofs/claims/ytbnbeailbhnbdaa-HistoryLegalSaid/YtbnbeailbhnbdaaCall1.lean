/-
  Calls as values; by client and beginning.
-/
import Derived.Test.YtbnbeailbhnbdaaSrtC
import Derived.Test.YtbnbeailbhnbdaaRowK
set_option linter.unusedVariables false
set_option linter.unusedSimpArgs false
namespace Go.Proofs.Ytbnbeailbhnbdaa
open Go.RowKit

theorem arr_new (W : World) (ds : List Int) : ArrAt W.heap.size ds (W.alloc (.cells (ds.map i64v).toArray 3)).drew := by
  show (W.heap.push _)[W.heap.size]? = _
  simp
/-- A call as it lies in memory: its numbers, and two slices. -/
structure CV where
  client : Int
  beg : Int
  fin : Int
  kind : Int
  place : Int
  ans : Bool
  frm : Int
  most : Int
  number : Int
  start : Int
  dv : Value
  rv : Value
def CV.cells (c : CV) : Array Value := #[.int .i64 c.client, .int .i64 c.beg, .int .i64 c.fin, .int .i64 c.kind, .int .i64 c.place, .bool c.ans, .int .i64 c.frm, .int .i64 c.most, .int .i64 c.number, .int .i64 c.start, c.dv, c.rv]
def CV.val (c : CV) : Value := .agg c.cells
def RetInt (v : Int) (w : World) (e : Ending) (w' : World) : Prop := e = .returned (.int .i64 v) ∧ Below w.heap.size w w'
def byR (c d : CV) : Int := orL [cmpI c.client d.client, cmpI c.beg d.beg]
set_option maxHeartbeats 2000000 in
theorem byR_any (c d : CV) (w : World) : Calls Try.prog 47 #[c.val, d.val] w (RetInt (byR c d) w) := by
  obtain ⟨c1, c2, c3, c4, c5, c6, c7, c8, c9, c10, c11, c12⟩ := c
  obtain ⟨d1, d2, d3, d4, d5, d6, d7, d8, d9, d10, d11, d12⟩ := d
  unfold CV.val CV.cells byR
  go_enter Try.func47, Try.ntmps47
  go_wp2_with fail
  have hb : Below w.heap.size w ((w.alloc (.cells #[.int .i64 c1, .int .i64 c2, .int .i64 c3, .int .i64 c4, .int .i64 c5, .bool c6, .int .i64 c7, .int .i64 c8, .int .i64 c9, .int .i64 c10, c11, c12] 62)).alloc (.cells #[.int .i64 d1, .int .i64 d2, .int .i64 d3, .int .i64 d4, .int .i64 d5, .bool d6, .int .i64 d7, .int .i64 d8, .int .i64 d9, .int .i64 d10, d11, d12] 62)) := ((Below.refl w.heap.size w).alloc (Nat.le_refl _) _).alloc (by simp) _
  generalize hW : (w.alloc _).alloc _ = W at hb ⊢
  have k1 : W.drew.cell? ⟨w.heap.size, 0, none⟩ = some (.int .i64 c1) := by rw [← hW]; simp
  have k2 : W.drew.cell? ⟨w.heap.size, 1, none⟩ = some (.int .i64 c2) := by rw [← hW]; simp
  have k3 : W.drew.cell? ⟨w.heap.size + 1, 0, none⟩ = some (.int .i64 d1) := by rw [← hW]; simp
  have k4 : W.drew.cell? ⟨w.heap.size + 1, 1, none⟩ = some (.int .i64 d2) := by rw [← hW]; simp
  obtain ⟨g, hg⟩ : ∃ g, w.heap.size = g := ⟨_, rfl⟩
  have HB := Lib.hid hb
  clear hW hb
  rw [hg] at k1 k2 k3 k4 ⊢
  have j1 : W.cell? ⟨g, 0, none⟩ = some (.int .i64 c1) := k1
  have j2 : W.cell? ⟨g, 1, none⟩ = some (.int .i64 c2) := k2
  have j3 : W.cell? ⟨g + 1, 0, none⟩ = some (.int .i64 d1) := k3
  have j4 : W.cell? ⟨g + 1, 1, none⟩ = some (.int .i64 d2) := k4
  have M := Lib.hid (fun o => (Below.refl W.heap.size W).alloc (Nat.le_refl _) o)
  have m1 := Lib.hid fun o => ((M.out o).cell (p := ⟨g, 0, none⟩) (World.block_lt_of_cell? _ _ j1)).trans j1
  have m2 := Lib.hid fun o => ((M.out o).cell (p := ⟨g, 1, none⟩) (World.block_lt_of_cell? _ _ j2)).trans j2
  have m3 := Lib.hid fun o => ((M.out o).cell (p := ⟨g + 1, 0, none⟩) (World.block_lt_of_cell? _ _ j3)).trans j3
  have m4 := Lib.hid fun o => ((M.out o).cell (p := ⟨g + 1, 1, none⟩) (World.block_lt_of_cell? _ _ j4)).trans j4
  go_region_held3 (fun W' => W'.cell? ⟨g, 0, none⟩ = some (.int .i64 c1) ∧ W'.cell? ⟨g, 1, none⟩ = some (.int .i64 c2) ∧ W'.cell? ⟨g + 1, 0, none⟩ = some (.int .i64 d1) ∧ W'.cell? ⟨g + 1, 1, none⟩ = some (.int .i64 d2))
    (first
      | exact ⟨k1, k2, k3, k4⟩
      | exact ⟨m1.out _, m2.out _, m3.out _, m4.out _⟩
      | fail)
    (first
      | (go_at_call 40; refine (compare_any _ _ _).mono ?_; rintro e w' ⟨rfl, rfl⟩)
      | (go_at_call 39; refine (or_any W.heap.size [cmpI c1 d1, cmpI c2 d2] 2 _ (arr_new W _) rfl (by decide)).mono ?_; rintro e w' ⟨rfl, rfl⟩)
      | fail)
  all_goals go_wp2_with fail
  all_goals go_ret
  all_goals exact ⟨rfl, (HB.out.alloc HB.out.size _).drew⟩
end Go.Proofs.Ytbnbeailbhnbdaa
