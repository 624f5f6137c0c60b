/-
  Package raft: no server, and one that nobody made.
-/
import Derived.Test.YtoongmoajnedlaaGreatProg
import Derived.Test.YtoongmoajnedlaaGreatLib
import Derived.Test.YtoongmoajnedlaaGreatRet
import Derived.Test.YtoongmoajnedlaaGreatRowK
import Derived.RegionTactic
import Derived.BigRegion
import Derived.Deep.CutRange
set_option linter.unusedVariables false
set_option linter.unusedSimpArgs false
namespace Go.Proofs.YtoongmoajnedlaaGreat
open Go.RowKit

/-- v points to no server, or to one that nobody made. -/
def NoRaft (v : Value) (w : World) : Prop := v = .pointer none ∨ ∃ g, v = .pointer (some ⟨g, 0, none⟩) ∧ w.cell? ⟨g, 22, none⟩ = some (.pointer none)
theorem NoRaft.below {v : Value} {w w' : World} (h : NoRaft v w) (hb : Below w.heap.size w w') : NoRaft v w' := by
  rcases h with h | ⟨g, h1, h2⟩
  · exact .inl h
  · exact .inr ⟨g, h1, (hb.cell (World.block_lt_of_cell? _ _ h2)).trans h2⟩
theorem rfnone_any (v : Value) (w : World) (h : NoRaft v w) : Calls Tryz.prog 45 #[v] w (RetBool w true) := by
  rcases h with rfl | ⟨g, rfl, hc⟩
  · go_enter Tryz.func45, Tryz.ntmps45
    go_wp2_with fail
    go_ret
    exact ⟨rfl, Below.refl _ _⟩
  · go_enter Tryz.func45, Tryz.ntmps45
    go_wp2_with fail
    go_ret
    exact ⟨rfl, Below.refl _ _⟩
def RetV (v : Value) (w : World) (e : Ending) (w' : World) : Prop := e = .returned v ∧ Below w.heap.size w w'
section
variable (v : Value) (w : World) (h : NoRaft v w)
include h
theorem tick_none (d : Int) : Calls Tryz.prog 13 #[v, .int .i64 d] w (RetV (.int .i64 1) w) := by
  have HN := Lib.hid (rfnone_any v w h)
  clear h
  go_enter Tryz.func13, Tryz.ntmps13
  go_wp2_with (first
    | (go_at_call 45; refine HN.out.mono ?_; rintro e w2 ⟨rfl, hb2⟩; have HL := Lib.hid hb2; clear hb2)
    | fail)
  go_ret
  exact ⟨rfl, HL.out⟩
theorem leads_none : Calls Tryz.prog 60 #[v] w (RetV (.int .i64 1) w) := by
  have HN := Lib.hid (rfnone_any v w h)
  clear h
  go_enter Tryz.func60, Tryz.ntmps60
  go_wp2_with (first
    | (go_at_call 45; refine HN.out.mono ?_; rintro e w2 ⟨rfl, hb2⟩; have HL := Lib.hid hb2; clear hb2)
    | fail)
  go_ret
  exact ⟨rfl, HL.out⟩
theorem propose_none (d : Value) : Calls Tryz.prog 14 #[v, d] w (RetV (.tuple #[.int .i64 0, .int .i64 1]) w) := by
  have HN := Lib.hid (leads_none v w h)
  clear h
  go_enter Tryz.func14, Tryz.ntmps14
  go_wp2_with (first
    | (go_at_call 60; refine HN.out.mono ?_; rintro e w2 ⟨rfl, hb2⟩; have HL := Lib.hid hb2; clear hb2)
    | fail)
  go_ret2
  exact ⟨rfl, HL.out⟩
theorem read_none (d : Value) : Calls Tryz.prog 15 #[v, d] w (RetV (.int .i64 1) w) := by
  have HN := Lib.hid (leads_none v w h)
  clear h
  go_enter Tryz.func15, Tryz.ntmps15
  go_wp2_with (first
    | (go_at_call 60; refine HN.out.mono ?_; rintro e w2 ⟨rfl, hb2⟩; have HL := Lib.hid hb2; clear hb2)
    | fail)
  go_ret
  exact ⟨rfl, HL.out⟩
theorem id_none : Calls Tryz.prog 29 #[v] w (RetV (.int .i64 0) w) := by
  have HN := Lib.hid (rfnone_any v w h)
  clear h
  go_enter Tryz.func29, Tryz.ntmps29
  go_wp2_with (first
    | (go_at_call 45; refine HN.out.mono ?_; rintro e w2 ⟨rfl, hb2⟩; have HL := Lib.hid hb2; clear hb2)
    | fail)
  go_ret
  exact ⟨rfl, HL.out⟩
theorem term_none : Calls Tryz.prog 23 #[v] w (RetV (.int .i64 0) w) := by
  have HN := Lib.hid (rfnone_any v w h)
  clear h
  go_enter Tryz.func23, Tryz.ntmps23
  go_wp2_with (first
    | (go_at_call 45; refine HN.out.mono ?_; rintro e w2 ⟨rfl, hb2⟩; have HL := Lib.hid hb2; clear hb2)
    | fail)
  go_ret
  exact ⟨rfl, HL.out⟩
theorem role_none : Calls Tryz.prog 27 #[v] w (RetV (.int .i64 0) w) := by
  have HN := Lib.hid (rfnone_any v w h)
  clear h
  go_enter Tryz.func27, Tryz.ntmps27
  go_wp2_with (first
    | (go_at_call 45; refine HN.out.mono ?_; rintro e w2 ⟨rfl, hb2⟩; have HL := Lib.hid hb2; clear hb2)
    | fail)
  go_ret
  exact ⟨rfl, HL.out⟩
theorem leader_none : Calls Tryz.prog 30 #[v] w (RetV (.int .i64 0) w) := by
  have HN := Lib.hid (rfnone_any v w h)
  clear h
  go_enter Tryz.func30, Tryz.ntmps30
  go_wp2_with (first
    | (go_at_call 45; refine HN.out.mono ?_; rintro e w2 ⟨rfl, hb2⟩; have HL := Lib.hid hb2; clear hb2)
    | fail)
  go_ret
  exact ⟨rfl, HL.out⟩
theorem commit_none : Calls Tryz.prog 31 #[v] w (RetV (.int .i64 0) w) := by
  have HN := Lib.hid (rfnone_any v w h)
  clear h
  go_enter Tryz.func31, Tryz.ntmps31
  go_wp2_with (first
    | (go_at_call 45; refine HN.out.mono ?_; rintro e w2 ⟨rfl, hb2⟩; have HL := Lib.hid hb2; clear hb2)
    | fail)
  go_ret
  exact ⟨rfl, HL.out⟩
theorem servers_none : Calls Tryz.prog 32 #[v] w (RetV (.slice none 0 0) w) := by
  have HN := Lib.hid (rfnone_any v w h)
  clear h
  go_enter Tryz.func32, Tryz.ntmps32
  go_wp2_with (first
    | (go_at_call 45; refine HN.out.mono ?_; rintro e w2 ⟨rfl, hb2⟩; have HL := Lib.hid hb2; clear hb2)
    | fail)
  go_ret
  exact ⟨rfl, HL.out⟩
theorem rfserversAt_none (d : Value) : Calls Tryz.prog 33 #[v, d] w (RetV (.slice none 0 0) w) := by
  have HN := Lib.hid (rfnone_any v w h)
  clear h
  go_enter Tryz.func33, Tryz.ntmps33
  go_wp2_with (first
    | (go_at_call 45; refine HN.out.mono ?_; rintro e w2 ⟨rfl, hb2⟩; have HL := Lib.hid hb2; clear hb2)
    | fail)
  go_ret
  exact ⟨rfl, HL.out⟩
end
set_option maxRecDepth 16384 in
theorem change_none (v : Value) (w : World) (h : NoRaft v w) (a : Bool) (d : Int) : Calls Tryz.prog 16 #[v, .bool a, .int .i64 d] w (RetV (.tuple #[.int .i64 0, .int .i64 1]) w) := by
  obtain ⟨W, hW⟩ : ∃ W, w.alloc (.cells #[v] 24) = W := ⟨_, rfl⟩
  have hb : Below w.heap.size w W := by rw [← hW]; exact (Below.refl _ _).alloc (Nat.le_refl _) _
  have hx : Box W w.heap.size 24 v := by rw [← hW]; exact Box.new _ _ _
  have HN := Lib.hid (leads_none v W (h.below hb))
  have HB := Lib.hid hb
  have HW := Lib.hid hW
  have c1 := hx.cell
  have key : v = .pointer none ∨ ∃ g, v = .pointer (some ⟨g, 0, none⟩) := by
    rcases h with h | ⟨g, h, _⟩
    · exact .inl h
    · exact .inr ⟨g, h⟩
  clear h hb hW hx
  rcases key with rfl | ⟨g, rfl⟩
  all_goals
    go_enter Tryz.func16, Tryz.ntmps16
    go_upto_region 1 with fail
    try rw [HW.out]
    go_wp2_with (first
      | (go_at_call 60; refine HN.out.mono ?_; rintro e w2 ⟨rfl, hb2⟩; have HL := Lib.hid (below_step HB.out HB.out.size hb2); clear hb2)
      | fail)
    go_ret2
    exact ⟨rfl, HL.out⟩
def zeroMsg : Value := .agg #[.int .i64 0, .int .i64 0, .int .i64 0, .int .i64 0, .int .i64 0, .int .i64 0, .int .i64 0, .int .i64 0, .bool false, .slice none 0 0, .slice none 0 0, .slice none 0 0]
def zeroSnap : Value := .agg #[.int .i64 0, .int .i64 0, .slice none 0 0, .slice none 0 0]
def zeroWork : Value := .agg #[.int .i64 0, .int .i64 0, .slice none 0 0, .slice none 0 0, .slice none 0 0, .slice none 0 0, .int .i64 0]
def zeroView : Value := .agg #[.int .i64 0, .int .i64 0, .slice none 0 0]
set_option maxRecDepth 16384 in
theorem step_none (v : Value) (w : World) (h : NoRaft v w) (d : Int) : Calls Tryz.prog 11 #[v, zeroMsg, .int .i64 d] w (RetV (.int .i64 1) w) := by
  obtain ⟨W, hW⟩ : ∃ W, w.alloc (.cells #[.int .i64 0, .int .i64 0, .int .i64 0, .int .i64 0, .int .i64 0, .int .i64 0, .int .i64 0, .int .i64 0, .bool false, .slice none 0 0, .slice none 0 0, .slice none 0 0] 34) = W := ⟨_, rfl⟩
  have hb : Below w.heap.size w W := by rw [← hW]; exact (Below.refl _ _).alloc (Nat.le_refl _) _
  have HN := Lib.hid (rfnone_any v W (h.below hb))
  have HB := Lib.hid hb
  have HW := Lib.hid hW
  unfold zeroMsg
  clear h hb hW
  go_enter Tryz.func11, Tryz.ntmps11
  go_upto_region 1 with fail
  rw [HW.out]
  go_wp2_with (first
    | (go_at_call 45; refine HN.out.mono ?_; rintro e w2 ⟨rfl, hb2⟩; have HL := Lib.hid (below_step HB.out HB.out.size hb2); clear hb2)
    | fail)
  go_ret
  exact ⟨rfl, HL.out⟩
set_option maxRecDepth 16384 in
theorem compact_none (v : Value) (w : World) (h : NoRaft v w) : Calls Tryz.prog 28 #[v, zeroSnap] w (RetV (.int .i64 1) w) := by
  obtain ⟨W, hW⟩ : ∃ W, w.alloc (.cells #[.int .i64 0, .int .i64 0, .slice none 0 0, .slice none 0 0] 69) = W := ⟨_, rfl⟩
  have hb : Below w.heap.size w W := by rw [← hW]; exact (Below.refl _ _).alloc (Nat.le_refl _) _
  have HN := Lib.hid (rfnone_any v W (h.below hb))
  have HB := Lib.hid hb
  have HW := Lib.hid hW
  unfold zeroSnap
  clear h hb hW
  go_enter Tryz.func28, Tryz.ntmps28
  go_upto_region 1 with fail
  rw [HW.out]
  go_wp2_with (first
    | (go_at_call 45; refine HN.out.mono ?_; rintro e w2 ⟨rfl, hb2⟩; have HL := Lib.hid (below_step HB.out HB.out.size hb2); clear hb2)
    | fail)
  go_ret
  exact ⟨rfl, HL.out⟩
set_option maxRecDepth 16384 in
theorem out_none (v : Value) (w : World) (h : NoRaft v w) : Calls Tryz.prog 17 #[v] w (RetV zeroWork w) := by
  obtain ⟨W, hW⟩ : ∃ W, w.alloc (.cells #[.int .i64 0, .int .i64 0, .slice none 0 0, .slice none 0 0, .slice none 0 0, .slice none 0 0, .int .i64 0] 44) = W := ⟨_, rfl⟩
  have hb : Below w.heap.size w W := by rw [← hW]; exact (Below.refl _ _).alloc (Nat.le_refl _) _
  have hr : W.heap[w.heap.size]? = some (.cells #[.int .i64 0, .int .i64 0, .slice none 0 0, .slice none 0 0, .slice none 0 0, .slice none 0 0, .int .i64 0] 44 (0, 0)) := by rw [← hW]; exact heap_alloc_new w _
  have HN := Lib.hid (rfnone_any v W (h.below hb))
  have HB := Lib.hid hb
  have HW := Lib.hid hW
  have HR := Lib.hid hr
  obtain ⟨gb, hgb⟩ : ∃ gb, w.heap.size = gb := ⟨_, rfl⟩
  rw [hgb] at HR
  have HGB := Lib.hid hgb
  unfold zeroWork
  clear h hb hW hr hgb
  go_enter Tryz.func17, Tryz.ntmps17
  go_upto_region 1 with fail
  rw [HW.out]
  try rw [HGB.out]
  go_wp2_with (first
    | (go_at_call 45; refine HN.out.mono ?_; rintro e w2 ⟨rfl, hb2⟩; have HL := Lib.hid (below_step HB.out HB.out.size hb2); have hr2 := (hb2.block gb (Array.getElem?_eq_some_iff.1 HR.out).1).trans HR.out; have HR2 := Lib.hid hr2; have d0 := cell_of_row w2 gb 0 _ _ _ hr2; have d1 := cell_of_row w2 gb 1 _ _ _ hr2; have d2 := cell_of_row w2 gb 2 _ _ _ hr2; have d3 := cell_of_row w2 gb 3 _ _ _ hr2; have d4 := cell_of_row w2 gb 4 _ _ _ hr2; have d5 := cell_of_row w2 gb 5 _ _ _ hr2; have d6 := cell_of_row w2 gb 6 _ _ _ hr2; have df : ∀ j, w2.frozen? ⟨gb, j, none⟩ = false := (fun j => by simp [World.frozen?, hr2]); simp at d0 d1 d2 d3 d4 d5 d6; clear hb2 hr2)
    | fail)
  have hZ : (((((((w2.setCell ⟨gb, 0, none⟩ (.int .i64 0)).setCell ⟨gb, 1, none⟩ (.int .i64 0)).setCell ⟨gb, 2, none⟩ (.slice none 0 0)).setCell ⟨gb, 3, none⟩ (.slice none 0 0)).setCell ⟨gb, 4, none⟩ (.slice none 0 0)).setCell ⟨gb, 5, none⟩ (.slice none 0 0)).setCell ⟨gb, 6, none⟩ (.int .i64 0)).heap[gb]? = some (.cells #[.int .i64 0, .int .i64 0, .slice none 0 0, .slice none 0 0, .slice none 0 0, .slice none 0 0, .int .i64 0] 44 (0, 0)) := by simp [World.setCell, Array.getElem?_modify, HR2.out]
  refine bodyPost_ret (v := .agg #[.int .i64 0, .int .i64 0, .slice none 0 0, .slice none 0 0, .slice none 0 0, .slice none 0 0, .int .i64 0]) (results_cell_row rfl _ _ _ _ _ _ _ rfl hZ Tryz.underlying44 rfl (by kernel_rfl)) rfl ?_
  have hgw := HGB.out
  exact ⟨rfl, ((((((HL.out.setCell (by show _ ≤ gb; omega) _).setCell (by show _ ≤ gb; omega) _).setCell (by show _ ≤ gb; omega) _).setCell (by show _ ≤ gb; omega) _).setCell (by show _ ≤ gb; omega) _).setCell (by show _ ≤ gb; omega) _).setCell (by show _ ≤ gb; omega) _⟩
theorem view_none (v : Value) (w : World) (h : NoRaft v w) : Calls Tryz.prog 19 #[v] w (RetV zeroView w) := by
  obtain ⟨W, hW⟩ : ∃ W, w.alloc (.cells #[.int .i64 0, .int .i64 0, .slice none 0 0] 48) = W := ⟨_, rfl⟩
  have hb : Below w.heap.size w W := by rw [← hW]; exact (Below.refl _ _).alloc (Nat.le_refl _) _
  have hr : W.heap[w.heap.size]? = some (.cells #[.int .i64 0, .int .i64 0, .slice none 0 0] 48 (0, 0)) := by rw [← hW]; exact heap_alloc_new w _
  have HN := Lib.hid (rfnone_any v W (h.below hb))
  have HB := Lib.hid hb
  have HW := Lib.hid hW
  have HR := Lib.hid hr
  obtain ⟨gb, hgb⟩ : ∃ gb, w.heap.size = gb := ⟨_, rfl⟩
  rw [hgb] at HR
  have HGB := Lib.hid hgb
  unfold zeroView
  clear h hb hW hr hgb
  go_enter Tryz.func19, Tryz.ntmps19
  go_upto_region 1 with fail
  rw [HW.out]
  try rw [HGB.out]
  go_wp2_with (first
    | (go_at_call 45; refine HN.out.mono ?_; rintro e w2 ⟨rfl, hb2⟩; have HL := Lib.hid (below_step HB.out HB.out.size hb2); have hr2 := (hb2.block gb (Array.getElem?_eq_some_iff.1 HR.out).1).trans HR.out; have HR2 := Lib.hid hr2; have d0 := cell_of_row w2 gb 0 _ _ _ hr2; have d1 := cell_of_row w2 gb 1 _ _ _ hr2; have d2 := cell_of_row w2 gb 2 _ _ _ hr2; have df : ∀ j, w2.frozen? ⟨gb, j, none⟩ = false := (fun j => by simp [World.frozen?, hr2]); simp at d0 d1 d2; clear hb2 hr2)
    | fail)
  have hZ : (((w2.setCell ⟨gb, 0, none⟩ (.int .i64 0)).setCell ⟨gb, 1, none⟩ (.int .i64 0)).setCell ⟨gb, 2, none⟩ (.slice none 0 0)).heap[gb]? = some (.cells #[.int .i64 0, .int .i64 0, .slice none 0 0] 48 (0, 0)) := by simp [World.setCell, Array.getElem?_modify, HR2.out]
  refine bodyPost_ret (v := .agg #[.int .i64 0, .int .i64 0, .slice none 0 0]) (results_cell_row rfl _ _ _ _ _ _ _ rfl hZ Tryz.underlying48 rfl (by kernel_rfl)) rfl ?_
  have hgw := HGB.out
  exact ⟨rfl, ((HL.out.setCell (by show _ ≤ gb; omega) _).setCell (by show _ ≤ gb; omega) _).setCell (by show _ ≤ gb; omega) _⟩
end Go.Proofs.YtoongmoajnedlaaGreat
