/-
  Package progress: Heard.
-/
import Derived.Test.YtlcnpfiiijehmaaKnow13
import Derived.Laws.StructEq
set_option linter.unusedVariables false
set_option linter.unusedSimpArgs false
namespace Go.Proofs.Ytlcnpfiiijehmaa
open Go.RowKit

def heardP (nx mt : Int) (yes : Bool) (at_ last : Int) : Int × Int :=
  if at_ < 0 ∨ last < at_ - 1 then (nx, mt) else if yes = false then (max (min nx at_) (mt + 1), mt) else if at_ ≤ last then (max nx (max mt at_ + 1), max mt at_) else (nx, mt)
def RetPeer (p : Int × Int) (w : World) (e : Ending) (w' : World) : Prop := e = .returned (.agg #[.int .i64 p.1, .int .i64 p.2]) ∧ Below w.heap.size w w'
theorem res_two (w : World) (o : Obj) (cs : Array Value) (ty : TypeId) : ((w.alloc o).alloc (.cells cs ty)).heap[w.heap.size + 1]? = some (.cells cs ty (0, 0)) := by
  have := heap_alloc_new (w.alloc o) (.cells cs ty)
  simpa using this
theorem res_three (w : World) (o o' : Obj) (cs : Array Value) (ty : TypeId) : (((w.alloc o).alloc (.cells cs ty)).alloc o').heap[w.heap.size + 1]? = some (.cells cs ty (0, 0)) :=
  (Below.heap_alloc _ _ _ (by simp)).trans (res_two w o cs ty)
theorem below_two (w : World) (o o' : Obj) : Below w.heap.size w ((w.alloc o).alloc o') := ((Below.refl _ _).alloc (Nat.le_refl _) _).alloc (by simp) _
theorem below_three (w : World) (o o' o'' : Obj) : Below w.heap.size w (((w.alloc o).alloc o').alloc o'') := (below_two w o o').alloc (by simp; omega) _
set_option maxHeartbeats 4000000 in
theorem heard_any (nx mt : Int) (yes : Bool) (at_ last : Int) (w : World) (h1 : 0 ≤ mt) (h2 : mt ≤ 1099511627776) (h3 : 0 ≤ nx) (h4 : nx ≤ 1099511627776) (h5 : 0 ≤ last) (h6 : last ≤ 1099511627776) (h7 : IntOk at_) :
    Calls Try.prog 16 #[.agg #[.int .i64 nx, .int .i64 mt], .bool yes, .int .i64 at_, .int .i64 last] w (RetPeer (heardP nx mt yes at_ last) w) := by
  unfold IntOk at h7
  by_cases g1 : at_ < 0
  · have HR : Hid (heardP nx mt yes at_ last = (nx, mt)) := Lib.hid (by unfold heardP; rw [if_pos (.inl g1)])
    rw [HR.out]
    go_enter Try.func16, Try.ntmps16
    go_wp2_with fail
    refine bodyPost_ret (results_cell_row rfl _ _ _ _ _ _ _ rfl (res_two _ _ _ _) Try.underlying38 rfl (by kernel_rfl)) rfl ?_
    exact ⟨rfl, below_two _ _ _⟩
  · have e1 : IntKind.i64.wrap (at_ - 1) = at_ - 1 := IntWalk.i64_in _ (by omega)
    by_cases g2 : last < at_ - 1
    · have HR : Hid (heardP nx mt yes at_ last = (nx, mt)) := Lib.hid (by unfold heardP; rw [if_pos (.inr g2)])
      rw [HR.out]
      go_enter Try.func16, Try.ntmps16
      go_wp2_with fail
      refine bodyPost_ret (results_cell_row rfl _ _ _ _ _ _ _ rfl (res_two _ _ _ _) Try.underlying38 rfl (by kernel_rfl)) rfl ?_
      exact ⟨rfl, below_two _ _ _⟩
    · cases yes with
      | false =>
        have HR : Hid (heardP nx mt false at_ last = (max (min nx at_) (mt + 1), mt)) := Lib.hid (by unfold heardP; rw [if_neg (by omega), if_pos rfl])
        rw [HR.out]
        go_enter Try.func16, Try.ntmps16
        go_wp2_with fail
        all_goals refine bodyPost_ret (results_cell_row rfl _ _ _ _ _ _ _ rfl (res_three _ _ _ _ _) Try.underlying38 rfl (by kernel_rfl)) rfl ?_
        all_goals exact ⟨rfl, below_three _ _ _ _⟩
      | true =>
        by_cases g3 : at_ ≤ last
        · have HR : Hid (heardP nx mt true at_ last = (max nx (max mt at_ + 1), max mt at_)) := Lib.hid (by unfold heardP; rw [if_neg (by omega), if_neg (by decide), if_pos g3])
          have e2 : IntKind.i64.wrap (max mt at_ + 1) = max mt at_ + 1 := IntWalk.i64_in _ (by omega)
          rw [HR.out]
          go_enter Try.func16, Try.ntmps16
          go_wp2_with fail
          all_goals refine bodyPost_ret (results_cell_row rfl _ _ _ _ _ _ _ rfl (res_three _ _ _ _ _) Try.underlying38 rfl (by kernel_rfl)) rfl ?_
          all_goals first | exact ⟨rfl, below_three _ _ _ _⟩ | (rename_i a b; rw [b] at a; exact ⟨by rw [a], below_three _ _ _ _⟩)
        · have HR : Hid (heardP nx mt true at_ last = (nx, mt)) := Lib.hid (by unfold heardP; rw [if_neg (by omega), if_neg (by decide), if_neg g3])
          rw [HR.out]
          go_enter Try.func16, Try.ntmps16
          go_wp2_with fail
          all_goals refine bodyPost_ret (results_cell_row rfl _ _ _ _ _ _ _ rfl (res_three _ _ _ _ _) Try.underlying38 rfl (by kernel_rfl)) rfl ?_
          all_goals exact ⟨rfl, below_three _ _ _ _⟩
end Go.Proofs.Ytlcnpfiiijehmaa
